/- Proved here: lemmas and walks on which the claim stands (part 6 of 6). No condition. -/
import Derived.Test.YtnlnpfpfggbheaaSw5
set_option linter.all false
set_option maxRecDepth 100000
namespace Go.Proofs
open Go Tp
theorem Try.en58 : Enters Try.prog 58 := fun _ _ => by kernel_rfl
theorem sc_new {G : Nat → Prop} {w : World} (f : ByteArray) (t : ByteArray) (b : Bool)   (M : Mem G (fun _ => False) w [] [] w) : Rets Try.prog 14 #[(vS f), (vS t), (vB b)] w fun r w' => ∃ (sb' : Nat), r = (vP sb') ∧ Mem G (fun _ => False) w [bk sb' #[(vS ((⟨f, t, b, sZ, false⟩ : Scn).frm)), (vS ((⟨f, t, b, sZ, false⟩ : Scn).to_)), (vB ((⟨f, t, b, sZ, false⟩ : Scn).back)), (vS ((⟨f, t, b, sZ, false⟩ : Scn).at_)), (vB ((⟨f, t, b, sZ, false⟩ : Scn).told))] 88] [] w' := by
 refine Rets.enter 12 _ Try.func14 rfl Try.ntmps14 Try.results14 (by simp) ?_
 refine wR (wA vN (WL.nil (wR (wM (vS f) (wM (vS t) ?_)))))
 refine wM (vB b) (wP (Value.agg #[(vS f), (vS t), (vB b), (vS sZ), (vB false)]) ?_)
 refine WL.box (v := (Value.agg #[(vS f), (vS t), (vB b), (vS sZ), (vB false)])) (c := #[(vS f), (vS t), (vB b), (vS sZ), (vB false)]) M rfl rfl rfl (fun b1 w2 hb1 M => ?_)
 refine wA (vP b1) (WL.nil ?_)
 refine W.ret ?_
 refine ⟨.inl rfl, (vP b1), ?_, ?_⟩
 · exact ⟨rfl, (Res.r1 (show RV _ _ _ (.tmp 6) (vP b1) from by exact rfl))⟩
 have e3 : (bk b1 #[(vS ((⟨f, t, b, sZ, false⟩ : Scn).frm)), (vS ((⟨f, t, b, sZ, false⟩ : Scn).to_)), (vB ((⟨f, t, b, sZ, false⟩ : Scn).back)), (vS ((⟨f, t, b, sZ, false⟩ : Scn).at_)), (vB ((⟨f, t, b, sZ, false⟩ : Scn).told))] 88 : Chunk) = (bk b1 #[(vS f), (vS t), (vB b), (vS sZ), (vB false)] 88 : Chunk) := by
  rfl
 replace M := M.rechunk 0 (c' := bk b1 #[(vS ((⟨f, t, b, sZ, false⟩ : Scn).frm)), (vS ((⟨f, t, b, sZ, false⟩ : Scn).to_)), (vB ((⟨f, t, b, sZ, false⟩ : Scn).back)), (vS ((⟨f, t, b, sZ, false⟩ : Scn).at_)), (vB ((⟨f, t, b, sZ, false⟩ : Scn).told))] 88) rfl e3.symm
 refine ⟨b1, ?_, M.close [0] rfl (by decide) trivial⟩
 rfl
theorem sc_within {G : Nat → Prop} {w : World} (sb : Nat) (s : Scn) (k : ByteArray)   (M : Mem G (fun _ => False) w [] [bF sb #[(vS s.frm), (vS s.to_), (vB s.back), (vS s.at_), (vB s.told)] 88] w) : Rets Try.prog 59 #[(vP sb), (vS k)] w fun r w' => r = (vB (withinS s k)) ∧ Mem G (fun _ => False) w [] [] w' := by
 refine Rets.enter 26 _ Try.func59 rfl Try.ntmps59 Try.results59 (by simp) ?_
 refine wR (wA (vB false) (WL.nil (wR (wM (vS k) (wM (vP sb) ?_)))))
 refine wP (vP sb) (wP (vP sb) (wS (vS s.frm) rfl (Step.load1 Try.sc9 rfl ((cell_blk (M.rep 0 rfl) 0).trans rfl)) (wP (vB (!(sLt k s.frm))) (wM (vB (!(sLt k s.frm))) ?_))))
 rcases Bool.eq_false_or_eq_true (!(sLt k s.frm)) with h1 | h1
 ·
  rw [h1]
  refine wM (vP sb) (wP (vP sb) (wP (Value.pointer (some ⟨sb, 1, none⟩)) (wS (vS s.to_) rfl (Step.load1 Try.sc9 rfl ((cell_blk (M.rep 0 rfl) 1).trans rfl)) (wP (vB (s.to_.toList == sZ.toList)) (wM (vB (s.to_.toList == sZ.toList)) ?_)))))
  rcases Bool.eq_false_or_eq_true (s.to_.toList == sZ.toList) with h2 | h2
  ·
   rw [h2]
   refine WL.pass rfl ?_
   refine WL.pass rfl ?_
   refine WL.pass rfl ?_
   refine WL.pass rfl ?_
   refine WL.pass rfl ?_
   refine WL.pass rfl ?_
   refine wS (vB true) rfl (Step.pick (t := true) rfl rfl) (wS (vB true) rfl (Step.pick (t := true) rfl rfl) (wA (vB true) (WL.nil ?_)))
   refine W.ret ?_
   refine ⟨.inl rfl, (vB true), ?_, ?_⟩
   · exact ⟨rfl, (Res.r1 (show RV _ _ _ (.tmp 4) (vB true) from by exact rfl))⟩
   refine ⟨?_, M.close [] rfl (by decide) trivial⟩
   refine congrArg Value.bool ?_
   unfold withinS
   try simp only [sGt, sLe] at *
   try simp only [sEq_dec] at *
   simp_all
  ·
   rw [h2]
   refine wM (vS k) (wM (vP sb) (wP (vP sb) (wP (Value.pointer (some ⟨sb, 1, none⟩)) (wS (vS s.to_) rfl (Step.load1 Try.sc9 rfl ((cell_blk (M.rep 0 rfl) 1).trans rfl)) (wP (vB (sLt k s.to_)) ?_)))))
   refine wS (vB (sLt k s.to_)) rfl (Step.pick (t := false) rfl rfl) (wS (vB (sLt k s.to_)) rfl (Step.pick (t := true) rfl rfl) (wA (vB (sLt k s.to_)) (WL.nil ?_)))
   refine W.ret ?_
   refine ⟨.inl rfl, (vB (sLt k s.to_)), ?_, ?_⟩
   · exact ⟨rfl, (Res.r1 (show RV _ _ _ (.tmp 4) (vB (sLt k s.to_)) from by exact rfl))⟩
   refine ⟨?_, M.close [] rfl (by decide) trivial⟩
   refine congrArg Value.bool ?_
   unfold withinS
   try simp only [sGt, sLe] at *
   try simp only [sEq_dec] at *
   simp_all
 ·
  rw [h1]
  refine WL.pass rfl ?_
  refine WL.pass rfl ?_
  refine WL.pass rfl ?_
  refine WL.pass rfl ?_
  refine WL.pass rfl ?_
  refine WL.pass rfl ?_
  refine WL.pass rfl ?_
  refine WL.pass rfl ?_
  refine WL.pass rfl ?_
  refine WL.pass rfl ?_
  refine WL.pass rfl ?_
  refine WL.pass rfl ?_
  refine WL.pass rfl ?_
  refine wS (vB false) rfl (Step.pick (t := false) rfl rfl) (wA (vB false) (WL.nil ?_))
  refine W.ret ?_
  refine ⟨.inl rfl, (vB false), ?_, ?_⟩
  · exact ⟨rfl, (Res.r1 (show RV _ _ _ (.tmp 4) (vB false) from by exact rfl))⟩
  refine ⟨?_, M.close [] rfl (by decide) trivial⟩
  refine congrArg Value.bool ?_
  unfold withinS
  try simp only [sGt, sLe] at *
  try simp only [sEq_dec] at *
  simp_all
theorem sc_start {G : Nat → Prop} {w : World} (sb : Nat) (s : Scn)   (M : Mem G (fun _ => False) w [] [bF sb #[(vS s.frm), (vS s.to_), (vB s.back), (vS s.at_), (vB s.told)] 88] w) : Rets Try.prog 58 #[(vP sb)] w fun r w' => r = (vS (startS s)) ∧ Mem G (fun _ => False) w [] [] w' := by
 refine Rets.enter 69 _ Try.func58 rfl Try.ntmps58 Try.results58 (by simp) ?_
 refine wR (wA (vS sZ) (WL.nil (W.seq' (W.block (W.seq' ?_)))))
 rcases Bool.eq_false_or_eq_true (!s.back) with h1 | h1
 ·
  rcases Bool.eq_false_or_eq_true (!s.told) with h2 | h2
  ·
   refine W.drawn M [0, 1, 2, 3, 4, 5, 6, 7, 8, 9, 10, 11, 12, 13, 14, 15, 16, 17, 18, 19, 20, 21, 22, 23] [] [] _ _ sE (fun _ h => h) Try.mixed (by kernel_rfl) ?_
   refine tP (vP sb) rfl (fun w => (Step.move rfl)) ?_
   refine tP (vP sb) rfl (fun w => sP) ?_
   refine tP (Value.pointer (some ⟨sb, 2, none⟩)) rfl (fun w => sP) ?_
   refine tR (vB false) rfl (fun A w M => (Step.cast (congrArg Value.bool (show (s.back) = false by simpa using h1)) (Step.load1 Try.sc4 rfl ((cell_blk (M.rep 0 rfl) 2).trans rfl)))) ?_
   refine tP (vB true) rfl (fun w => sP) ?_
   refine tP (vB true) rfl (fun w => (Step.move rfl)) ?_
   refine tP (vP sb) rfl (fun w => (Step.move rfl)) ?_
   refine tP (vP sb) rfl (fun w => sP) ?_
   refine tP (Value.pointer (some ⟨sb, 4, none⟩)) rfl (fun w => sP) ?_
   refine tR (vB false) rfl (fun A w M => (Step.cast (congrArg Value.bool (show (s.told) = false by simpa using h2)) (Step.load1 Try.sc4 rfl ((cell_blk (M.rep 0 rfl) 4).trans rfl)))) ?_
   refine tP (vB true) rfl (fun w => sP) ?_
   refine tP (vB true) rfl (fun w => (Step.move rfl)) ?_
   refine TW.skip rfl rfl ?_
   refine TW.skip rfl rfl ?_
   refine TW.skip rfl rfl ?_
   refine TW.skip rfl rfl ?_
   refine TW.skip rfl rfl ?_
   refine TW.skip rfl rfl ?_
   refine TW.skip rfl rfl ?_
   refine TW.skip rfl rfl ?_
   refine TW.skip rfl rfl ?_
   refine tP (vB true) rfl (fun w => (Step.pick (t := true) rfl rfl)) ?_
   refine tP (vB true) rfl (fun w => (Step.pick (t := true) rfl rfl)) ?_
   refine tP (vB true) rfl (fun w => (Step.assign rfl)) ?_
   refine TW.done (fun w3 M => ?_)
   refine W.cond (t := true) rfl (fun _ => ?_) (fun h => by cases h)
   refine wR (wM (vP sb) (wP (vP sb) (wP (vP sb) (wS (vS s.frm) rfl (Step.load1 Try.sc9 rfl ((cell_blk (M.rep 0 rfl) 0).trans rfl)) (wA (vS s.frm) ?_)))))
   refine WL.nil ?_
   refine W.ret ?_
   refine ⟨.inl rfl, (vS s.frm), ?_, ?_⟩
   · exact ⟨rfl, (Res.r1 (show RV _ _ _ (.tmp 2) (vS s.frm) from by exact rfl))⟩
   refine ⟨?_, M.close [] rfl (by decide) trivial⟩
   refine congrArg Value.string ?_
   unfold startS
   try simp only [sGt, sLe] at *
   try simp only [sEq_dec] at *
   simp_all
  ·
   refine W.drawn M [0, 1, 2, 3, 4, 5, 6, 7, 8, 9, 10, 11, 12, 13, 14, 15, 16, 17, 18, 19, 20, 21, 22, 23] [] [] _ _ sE (fun _ h => h) Try.mixed (by kernel_rfl) ?_
   refine tP (vP sb) rfl (fun w => (Step.move rfl)) ?_
   refine tP (vP sb) rfl (fun w => sP) ?_
   refine tP (Value.pointer (some ⟨sb, 2, none⟩)) rfl (fun w => sP) ?_
   refine tR (vB false) rfl (fun A w M => (Step.cast (congrArg Value.bool (show (s.back) = false by simpa using h1)) (Step.load1 Try.sc4 rfl ((cell_blk (M.rep 0 rfl) 2).trans rfl)))) ?_
   refine tP (vB true) rfl (fun w => sP) ?_
   refine tP (vB true) rfl (fun w => (Step.move rfl)) ?_
   refine tP (vP sb) rfl (fun w => (Step.move rfl)) ?_
   refine tP (vP sb) rfl (fun w => sP) ?_
   refine tP (Value.pointer (some ⟨sb, 4, none⟩)) rfl (fun w => sP) ?_
   refine tR (vB true) rfl (fun A w M => (Step.cast (congrArg Value.bool (show (s.told) = true by simpa using h2)) (Step.load1 Try.sc4 rfl ((cell_blk (M.rep 0 rfl) 4).trans rfl)))) ?_
   refine tP (vB false) rfl (fun w => sP) ?_
   refine tP (vB false) rfl (fun w => (Step.move rfl)) ?_
   refine tP (vP sb) rfl (fun w => (Step.move rfl)) ?_
   refine tP (vP sb) rfl (fun w => sP) ?_
   refine tP (Value.pointer (some ⟨sb, 3, none⟩)) rfl (fun w => sP) ?_
   refine tR (vS s.at_) rfl (fun A w M => (Step.load1 Try.sc9 rfl ((cell_blk (M.rep 0 rfl) 3).trans rfl))) ?_
   refine tP (vP sb) rfl (fun w => (Step.move rfl)) ?_
   refine tP (vP sb) rfl (fun w => sP) ?_
   refine tP (vP sb) rfl (fun w => sP) ?_
   refine tR (vS s.frm) rfl (fun A w M => (Step.load1 Try.sc9 rfl ((cell_blk (M.rep 0 rfl) 0).trans rfl))) ?_
   refine tP (vB (sLt s.at_ s.frm)) rfl (fun w => sP) ?_
   refine tP (vB (sLt s.at_ s.frm)) rfl (fun w => (Step.pick (t := false) rfl rfl)) ?_
   refine tP (vB (sLt s.at_ s.frm)) rfl (fun w => (Step.pick (t := true) rfl rfl)) ?_
   refine tP (vB (sLt s.at_ s.frm)) rfl (fun w => (Step.assign rfl)) ?_
   refine TW.done (fun w4 M => ?_)
   refine W.cond (t := sLt s.at_ s.frm) rfl (fun h5 => ?_) (fun h5 => ?_)
   ·
    refine wR (wM (vP sb) (wP (vP sb) (wP (vP sb) (wS (vS s.frm) rfl (Step.load1 Try.sc9 rfl ((cell_blk (M.rep 0 rfl) 0).trans rfl)) (wA (vS s.frm) ?_)))))
    refine WL.nil ?_
    refine W.ret ?_
    refine ⟨.inl rfl, (vS s.frm), ?_, ?_⟩
    · exact ⟨rfl, (Res.r1 (show RV _ _ _ (.tmp 2) (vS s.frm) from by exact rfl))⟩
    refine ⟨?_, M.close [] rfl (by decide) trivial⟩
    refine congrArg Value.string ?_
    unfold startS
    try simp only [sGt, sLe] at *
    try simp only [sEq_dec] at *
    simp_all
   ·
    refine W.seq' ?_
    refine W.drawn M [0, 1, 2, 3, 4, 5, 6, 7, 8, 9, 10, 11, 12, 13, 14, 15, 16, 17, 18, 19, 20, 21, 22, 23, 24, 25, 26, 27, 28, 29] [] [] _ _ sE (fun _ h => h) Try.mixed (by kernel_rfl) ?_
    refine tP (vP sb) rfl (fun w => (Step.move rfl)) ?_
    refine tP (vP sb) rfl (fun w => sP) ?_
    refine tP (Value.pointer (some ⟨sb, 2, none⟩)) rfl (fun w => sP) ?_
    refine tR (vB false) rfl (fun A w M => (Step.cast (congrArg Value.bool (show (s.back) = false by simpa using h1)) (Step.load1 Try.sc4 rfl ((cell_blk (M.rep 0 rfl) 2).trans rfl)))) ?_
    refine tP (vB false) rfl (fun w => (Step.move rfl)) ?_
    refine TW.skip rfl rfl ?_
    refine TW.skip rfl rfl ?_
    refine TW.skip rfl rfl ?_
    refine TW.skip rfl rfl ?_
    refine TW.skip rfl rfl ?_
    refine TW.skip rfl rfl ?_
    refine TW.skip rfl rfl ?_
    refine TW.skip rfl rfl ?_
    refine TW.skip rfl rfl ?_
    refine TW.skip rfl rfl ?_
    refine TW.skip rfl rfl ?_
    refine TW.skip rfl rfl ?_
    refine TW.skip rfl rfl ?_
    refine TW.skip rfl rfl ?_
    refine TW.skip rfl rfl ?_
    refine TW.skip rfl rfl ?_
    refine TW.skip rfl rfl ?_
    refine TW.skip rfl rfl ?_
    refine TW.skip rfl rfl ?_
    refine TW.skip rfl rfl ?_
    refine TW.skip rfl rfl ?_
    refine TW.skip rfl rfl ?_
    refine TW.skip rfl rfl ?_
    refine tP (vB false) rfl (fun w => (Step.pick (t := false) rfl rfl)) ?_
    refine tP (vB false) rfl (fun w => (Step.assign rfl)) ?_
    refine TW.done (fun w6 M => ?_)
    refine W.cond (t := false) rfl (fun h => by cases h) (fun _ => ?_)
    refine W.skip (wR (wM (vP sb) (wP (vP sb) (wP (Value.pointer (some ⟨sb, 3, none⟩)) (wS (vS s.at_) rfl (Step.load1 Try.sc9 rfl ((cell_blk (M.rep 0 rfl) 3).trans rfl)) ?_)))))
    refine wA (vS s.at_) (WL.nil ?_)
    refine W.ret ?_
    refine ⟨.inl rfl, (vS s.at_), ?_, ?_⟩
    · exact ⟨rfl, (Res.r1 (show RV _ _ _ (.tmp 2) (vS s.at_) from by exact rfl))⟩
    refine ⟨?_, M.close [] rfl (by decide) trivial⟩
    refine congrArg Value.string ?_
    unfold startS
    try simp only [sGt, sLe] at *
    try simp only [sEq_dec] at *
    simp_all
 ·
  refine W.drawn M [0, 1, 2, 3, 4, 5, 6, 7, 8, 9, 10, 11, 12, 13, 14, 15, 16, 17, 18, 19, 20, 21, 22, 23] [] [] _ _ sE (fun _ h => h) Try.mixed (by kernel_rfl) ?_
  refine tP (vP sb) rfl (fun w => (Step.move rfl)) ?_
  refine tP (vP sb) rfl (fun w => sP) ?_
  refine tP (Value.pointer (some ⟨sb, 2, none⟩)) rfl (fun w => sP) ?_
  refine tR (vB true) rfl (fun A w M => (Step.cast (congrArg Value.bool (show (s.back) = true by simpa using h1)) (Step.load1 Try.sc4 rfl ((cell_blk (M.rep 0 rfl) 2).trans rfl)))) ?_
  refine tP (vB false) rfl (fun w => sP) ?_
  refine tP (vB false) rfl (fun w => (Step.move rfl)) ?_
  refine TW.skip rfl rfl ?_
  refine TW.skip rfl rfl ?_
  refine TW.skip rfl rfl ?_
  refine TW.skip rfl rfl ?_
  refine TW.skip rfl rfl ?_
  refine TW.skip rfl rfl ?_
  refine TW.skip rfl rfl ?_
  refine TW.skip rfl rfl ?_
  refine TW.skip rfl rfl ?_
  refine TW.skip rfl rfl ?_
  refine TW.skip rfl rfl ?_
  refine TW.skip rfl rfl ?_
  refine TW.skip rfl rfl ?_
  refine TW.skip rfl rfl ?_
  refine TW.skip rfl rfl ?_
  refine TW.skip rfl rfl ?_
  refine tP (vB false) rfl (fun w => (Step.pick (t := false) rfl rfl)) ?_
  refine tP (vB false) rfl (fun w => (Step.assign rfl)) ?_
  refine TW.done (fun w7 M => ?_)
  refine W.cond (t := false) rfl (fun h => by cases h) (fun _ => ?_)
  refine W.seq' ?_
  rcases Bool.eq_false_or_eq_true (!s.told) with h8 | h8
  ·
   refine W.drawn M [0, 1, 2, 3, 4, 5, 6, 7, 8, 9, 10, 11, 12, 13, 14, 15, 16, 17, 18, 19, 20, 21, 22, 23, 24, 25, 26, 27, 28, 29] [] [] _ _ sE (fun _ h => h) Try.mixed (by kernel_rfl) ?_
   refine tP (vP sb) rfl (fun w => (Step.move rfl)) ?_
   refine tP (vP sb) rfl (fun w => sP) ?_
   refine tP (Value.pointer (some ⟨sb, 2, none⟩)) rfl (fun w => sP) ?_
   refine tR (vB true) rfl (fun A w M => (Step.cast (congrArg Value.bool (show (s.back) = true by simpa using h1)) (Step.load1 Try.sc4 rfl ((cell_blk (M.rep 0 rfl) 2).trans rfl)))) ?_
   refine tP (vB true) rfl (fun w => (Step.move rfl)) ?_
   refine tP (vP sb) rfl (fun w => (Step.move rfl)) ?_
   refine tP (vP sb) rfl (fun w => sP) ?_
   refine tP (Value.pointer (some ⟨sb, 4, none⟩)) rfl (fun w => sP) ?_
   refine tR (vB false) rfl (fun A w M => (Step.cast (congrArg Value.bool (show (s.told) = false by simpa using h8)) (Step.load1 Try.sc4 rfl ((cell_blk (M.rep 0 rfl) 4).trans rfl)))) ?_
   refine tP (vB true) rfl (fun w => sP) ?_
   refine tP (vB true) rfl (fun w => (Step.move rfl)) ?_
   refine TW.skip rfl rfl ?_
   refine TW.skip rfl rfl ?_
   refine TW.skip rfl rfl ?_
   refine TW.skip rfl rfl ?_
   refine TW.skip rfl rfl ?_
   refine TW.skip rfl rfl ?_
   refine TW.skip rfl rfl ?_
   refine TW.skip rfl rfl ?_
   refine TW.skip rfl rfl ?_
   refine TW.skip rfl rfl ?_
   refine TW.skip rfl rfl ?_
   refine TW.skip rfl rfl ?_
   refine TW.skip rfl rfl ?_
   refine TW.skip rfl rfl ?_
   refine TW.skip rfl rfl ?_
   refine TW.skip rfl rfl ?_
   refine tP (vB true) rfl (fun w => (Step.pick (t := true) rfl rfl)) ?_
   refine tP (vB true) rfl (fun w => (Step.pick (t := true) rfl rfl)) ?_
   refine tP (vB true) rfl (fun w => (Step.assign rfl)) ?_
   refine TW.done (fun w9 M => ?_)
   refine W.cond (t := true) rfl (fun _ => ?_) (fun h => by cases h)
   refine wR (wM (vP sb) (wP (vP sb) (wP (Value.pointer (some ⟨sb, 1, none⟩)) (wS (vS s.to_) rfl (Step.load1 Try.sc9 rfl ((cell_blk (M.rep 0 rfl) 1).trans rfl)) (wA (vS s.to_) ?_)))))
   refine WL.nil ?_
   refine W.ret ?_
   refine ⟨.inl rfl, (vS s.to_), ?_, ?_⟩
   · exact ⟨rfl, (Res.r1 (show RV _ _ _ (.tmp 2) (vS s.to_) from by exact rfl))⟩
   refine ⟨?_, M.close [] rfl (by decide) trivial⟩
   refine congrArg Value.string ?_
   unfold startS
   try simp only [sGt, sLe] at *
   try simp only [sEq_dec] at *
   simp_all
  ·
   rcases Bool.eq_false_or_eq_true (!(s.to_.toList == sZ.toList)) with h10 | h10
   ·
    refine W.drawn M [0, 1, 2, 3, 4, 5, 6, 7, 8, 9, 10, 11, 12, 13, 14, 15, 16, 17, 18, 19, 20, 21, 22, 23, 24, 25, 26, 27, 28, 29] [] [] _ _ sE (fun _ h => h) Try.mixed (by kernel_rfl) ?_
    refine tP (vP sb) rfl (fun w => (Step.move rfl)) ?_
    refine tP (vP sb) rfl (fun w => sP) ?_
    refine tP (Value.pointer (some ⟨sb, 2, none⟩)) rfl (fun w => sP) ?_
    refine tR (vB true) rfl (fun A w M => (Step.cast (congrArg Value.bool (show (s.back) = true by simpa using h1)) (Step.load1 Try.sc4 rfl ((cell_blk (M.rep 0 rfl) 2).trans rfl)))) ?_
    refine tP (vB true) rfl (fun w => (Step.move rfl)) ?_
    refine tP (vP sb) rfl (fun w => (Step.move rfl)) ?_
    refine tP (vP sb) rfl (fun w => sP) ?_
    refine tP (Value.pointer (some ⟨sb, 4, none⟩)) rfl (fun w => sP) ?_
    refine tR (vB true) rfl (fun A w M => (Step.cast (congrArg Value.bool (show (s.told) = true by simpa using h8)) (Step.load1 Try.sc4 rfl ((cell_blk (M.rep 0 rfl) 4).trans rfl)))) ?_
    refine tP (vB false) rfl (fun w => sP) ?_
    refine tP (vB false) rfl (fun w => (Step.move rfl)) ?_
    refine tP (vP sb) rfl (fun w => (Step.move rfl)) ?_
    refine tP (vP sb) rfl (fun w => sP) ?_
    refine tP (Value.pointer (some ⟨sb, 1, none⟩)) rfl (fun w => sP) ?_
    refine tR (vS s.to_) rfl (fun A w M => (Step.load1 Try.sc9 rfl ((cell_blk (M.rep 0 rfl) 1).trans rfl))) ?_
    refine tP (vB true) rfl (fun w => (Step.cast (congrArg Value.bool h10) sP)) ?_
    refine tP (vB true) rfl (fun w => (Step.move rfl)) ?_
    refine tP (vP sb) rfl (fun w => (Step.move rfl)) ?_
    refine tP (vP sb) rfl (fun w => sP) ?_
    refine tP (Value.pointer (some ⟨sb, 3, none⟩)) rfl (fun w => sP) ?_
    refine tR (vS s.at_) rfl (fun A w M => (Step.load1 Try.sc9 rfl ((cell_blk (M.rep 0 rfl) 3).trans rfl))) ?_
    refine tP (vP sb) rfl (fun w => (Step.move rfl)) ?_
    refine tP (vP sb) rfl (fun w => sP) ?_
    refine tP (Value.pointer (some ⟨sb, 1, none⟩)) rfl (fun w => sP) ?_
    refine tR (vS s.to_) rfl (fun A w M => (Step.load1 Try.sc9 rfl ((cell_blk (M.rep 0 rfl) 1).trans rfl))) ?_
    refine tP (vB (!(sLt s.at_ s.to_ || s.at_.toList == s.to_.toList))) rfl (fun w => sP) ?_
    refine tP (vB (!(sLt s.at_ s.to_ || s.at_.toList == s.to_.toList))) rfl (fun w => (Step.pick (t := true) rfl rfl)) ?_
    refine tP (vB (!(sLt s.at_ s.to_ || s.at_.toList == s.to_.toList))) rfl (fun w => (Step.pick (t := false) rfl rfl)) ?_
    refine tP (vB (!(sLt s.at_ s.to_ || s.at_.toList == s.to_.toList))) rfl (fun w => (Step.pick (t := true) rfl rfl)) ?_
    refine tP (vB (!(sLt s.at_ s.to_ || s.at_.toList == s.to_.toList))) rfl (fun w => (Step.assign rfl)) ?_
    refine TW.done (fun w11 M => ?_)
    refine W.cond (t := !(sLt s.at_ s.to_ || s.at_.toList == s.to_.toList)) rfl (fun h12 => ?_) (fun h12 => ?_)
    ·
     refine wR (wM (vP sb) (wP (vP sb) (wP (Value.pointer (some ⟨sb, 1, none⟩)) (wS (vS s.to_) rfl (Step.load1 Try.sc9 rfl ((cell_blk (M.rep 0 rfl) 1).trans rfl)) (wA (vS s.to_) ?_)))))
     refine WL.nil ?_
     refine W.ret ?_
     refine ⟨.inl rfl, (vS s.to_), ?_, ?_⟩
     · exact ⟨rfl, (Res.r1 (show RV _ _ _ (.tmp 2) (vS s.to_) from by exact rfl))⟩
     refine ⟨?_, M.close [] rfl (by decide) trivial⟩
     refine congrArg Value.string ?_
     unfold startS
     try simp only [sGt, sLe] at *
     try simp only [sEq_dec] at *
     simp_all
    ·
     refine W.skip (wR (wM (vP sb) (wP (vP sb) (wP (Value.pointer (some ⟨sb, 3, none⟩)) (wS (vS s.at_) rfl (Step.load1 Try.sc9 rfl ((cell_blk (M.rep 0 rfl) 3).trans rfl)) ?_)))))
     refine wA (vS s.at_) (WL.nil ?_)
     refine W.ret ?_
     refine ⟨.inl rfl, (vS s.at_), ?_, ?_⟩
     · exact ⟨rfl, (Res.r1 (show RV _ _ _ (.tmp 2) (vS s.at_) from by exact rfl))⟩
     refine ⟨?_, M.close [] rfl (by decide) trivial⟩
     refine congrArg Value.string ?_
     unfold startS
     try simp only [sGt, sLe] at *
     try simp only [sEq_dec] at *
     simp_all
   ·
    refine W.drawn M [0, 1, 2, 3, 4, 5, 6, 7, 8, 9, 10, 11, 12, 13, 14, 15, 16, 17, 18, 19, 20, 21, 22, 23, 24, 25, 26, 27, 28, 29] [] [] _ _ sE (fun _ h => h) Try.mixed (by kernel_rfl) ?_
    refine tP (vP sb) rfl (fun w => (Step.move rfl)) ?_
    refine tP (vP sb) rfl (fun w => sP) ?_
    refine tP (Value.pointer (some ⟨sb, 2, none⟩)) rfl (fun w => sP) ?_
    refine tR (vB true) rfl (fun A w M => (Step.cast (congrArg Value.bool (show (s.back) = true by simpa using h1)) (Step.load1 Try.sc4 rfl ((cell_blk (M.rep 0 rfl) 2).trans rfl)))) ?_
    refine tP (vB true) rfl (fun w => (Step.move rfl)) ?_
    refine tP (vP sb) rfl (fun w => (Step.move rfl)) ?_
    refine tP (vP sb) rfl (fun w => sP) ?_
    refine tP (Value.pointer (some ⟨sb, 4, none⟩)) rfl (fun w => sP) ?_
    refine tR (vB true) rfl (fun A w M => (Step.cast (congrArg Value.bool (show (s.told) = true by simpa using h8)) (Step.load1 Try.sc4 rfl ((cell_blk (M.rep 0 rfl) 4).trans rfl)))) ?_
    refine tP (vB false) rfl (fun w => sP) ?_
    refine tP (vB false) rfl (fun w => (Step.move rfl)) ?_
    refine tP (vP sb) rfl (fun w => (Step.move rfl)) ?_
    refine tP (vP sb) rfl (fun w => sP) ?_
    refine tP (Value.pointer (some ⟨sb, 1, none⟩)) rfl (fun w => sP) ?_
    refine tR (vS s.to_) rfl (fun A w M => (Step.load1 Try.sc9 rfl ((cell_blk (M.rep 0 rfl) 1).trans rfl))) ?_
    refine tP (vB false) rfl (fun w => (Step.cast (congrArg Value.bool h10) sP)) ?_
    refine tP (vB false) rfl (fun w => (Step.move rfl)) ?_
    refine TW.skip rfl rfl ?_
    refine TW.skip rfl rfl ?_
    refine TW.skip rfl rfl ?_
    refine TW.skip rfl rfl ?_
    refine TW.skip rfl rfl ?_
    refine TW.skip rfl rfl ?_
    refine TW.skip rfl rfl ?_
    refine TW.skip rfl rfl ?_
    refine TW.skip rfl rfl ?_
    refine tP (vB false) rfl (fun w => (Step.pick (t := false) rfl rfl)) ?_
    refine tP (vB false) rfl (fun w => (Step.pick (t := false) rfl rfl)) ?_
    refine tP (vB false) rfl (fun w => (Step.pick (t := true) rfl rfl)) ?_
    refine tP (vB false) rfl (fun w => (Step.assign rfl)) ?_
    refine TW.done (fun w13 M => ?_)
    refine W.cond (t := false) rfl (fun h => by cases h) (fun _ => ?_)
    refine W.skip (wR (wM (vP sb) (wP (vP sb) (wP (Value.pointer (some ⟨sb, 3, none⟩)) (wS (vS s.at_) rfl (Step.load1 Try.sc9 rfl ((cell_blk (M.rep 0 rfl) 3).trans rfl)) ?_)))))
    refine wA (vS s.at_) (WL.nil ?_)
    refine W.ret ?_
    refine ⟨.inl rfl, (vS s.at_), ?_, ?_⟩
    · exact ⟨rfl, (Res.r1 (show RV _ _ _ (.tmp 2) (vS s.at_) from by exact rfl))⟩
    refine ⟨?_, M.close [] rfl (by decide) trivial⟩
    refine congrArg Value.string ?_
    unfold startS
    try simp only [sGt, sLe] at *
    try simp only [sEq_dec] at *
    simp_all
theorem sc_last {G X : Nat → Prop} {w : World} (k : ByteArray) (bb : Nat) (tb : Nat) (S : Nat → Prop) (row : List THit) (c : Nat)  (hc : c ≤ 900) (M : Mem G X w [tT S tb row c] [bF bb #[(vP tb)] 26] w) : Rets Try.prog 96 #[(vS k), (vP bb)] w fun r w' => r = (Value.tuple #[(Value.agg #[(vS (((tailL row).1).key)), (vI (((tailL row).1).val))]), (vB ((tailL row).2))]) ∧ Mem G X w [tT S tb row c] [] w' := by
 refine Rets.enter 9 _ Try.func96 rfl Try.ntmps96 Try.results96 (by simp) ?_
 refine wR ?_
 refine WL.alloc (c := #[(vS sZ), (vI 0)]) M rfl Try.el41.zero rfl (fun b1 w2 hb1 M => ?_)
 refine wA (vB false) (WL.nil (wR (wS (vP tb) rfl (Step.load1 Try.sc26 rfl ((cell_blk (M.rep 0 rfl) 0).trans rfl)) ?_)))
 have fq := M.frm [tT S tb row c] [bk b1 #[(vS sZ), (vI 0)] 41] [1, 0] rfl
 refine WL.callX rfl (T_last tb S row c (by first | assumption | omega) (M.eF fq trivial)) (CallsF.func Try.en78 rfl) ?_
 rintro _ w3 ⟨rfl, m⟩
 replace M := M.lF fq m
 clear m
 refine wP (Value.agg #[(vS (((tailL row).1).key)), (vI (((tailL row).1).val))]) (wP (vB ((tailL row).2)) ?_)
 refine WL.store (v := (Value.agg #[(vS (((tailL row).1).key)), (vI (((tailL row).1).val))])) (cs := [(vS (((tailL row).1).key)), (vI (((tailL row).1).val))]) (c' := #[(vS (((tailL row).1).key)), (vI (((tailL row).1).val))]) M 1 rfl rfl Try.el41.sized rfl rfl rfl rfl (Nat.le_of_ble_eq_true rfl) (cel_cons rfl (cel_cons rfl cel_nil)) rfl rfl (fun w4 M => ?_)
 refine wA (vB ((tailL row).2)) (WL.nil ?_)
 refine W.ret ?_
 refine ⟨.inl rfl, (Value.tuple #[(Value.agg #[(vS (((tailL row).1).key)), (vI (((tailL row).1).val))]), (vB ((tailL row).2))]), ?_, ?_⟩
 · exact ⟨rfl, (Res.r2 (RV.cellN Try.ag41 rfl (M.blk 1 rfl) rfl) (show RV _ _ _ (.tmp 4) (vB ((tailL row).2)) from by exact rfl))⟩
 refine ⟨?_, M.close [0] rfl (by decide) trivial⟩
 rfl
theorem sc_look1 {G : Nat → Prop} {w : World} (sb : Nat) (s : Scn) (tb : Nat)  (hl : look1 s = true) (M : Mem G (fun _ => False) w [] [bF sb #[(vS s.frm), (vS s.to_), (vB s.back), (vS s.at_), (vB s.told)] 88] w) : Rets Try.prog 57 #[(vP sb), (vP tb)] w fun r w' => ∃ (b' : Nat), r = (Value.func (.func 96) #[] #[(vP b')]) ∧ Mem G (fun _ => False) w [bk b' #[(vP tb)] 26] [] w' := by
 refine Rets.enter 49 _ Try.func57 rfl Try.ntmps57 Try.results57 (by simp) ?_
 refine wR ?_
 refine WL.box (v := (vP tb)) (c := #[(vP tb)]) M rfl rfl rfl (fun b1 w2 hb1 M => ?_)
 refine wA Value.nilFunc (WL.nil (W.seq' ?_))
 rcases Bool.eq_false_or_eq_true (s.told) with h3 | h3
 ·
  refine W.drawn M [0, 1, 2, 3, 4, 5, 6, 7, 8, 9, 10, 11, 12, 13] [6] [] _ _ (sY sE) (fun _ h => h) Try.mixed (by kernel_rfl) ?_
  refine tP (vP sb) rfl (fun w => (Step.move rfl)) ?_
  refine tP (vP sb) rfl (fun w => sP) ?_
  refine tP (Value.pointer (some ⟨sb, 4, none⟩)) rfl (fun w => sP) ?_
  refine tR (vB true) rfl (fun A w M => (Step.cast (congrArg Value.bool h3) (Step.load1 Try.sc4 rfl ((cell_blk (M.rep 0 rfl) 4).trans rfl)))) ?_
  refine tP (vB true) rfl (fun w => (Step.move rfl)) ?_
  refine tP (vP sb) rfl (fun w => (Step.move rfl)) ?_
  refine TW.callX (ι := Unit) (fun jx v_ => v_ = (vS (startS s))) (fun jx => [bk b1 #[(vP tb)] 26]) (fun jx => [bF sb #[(vS s.frm), (vS s.to_), (vB s.back), (vS s.at_), (vB s.told)] 88]) rfl (by decide) rfl (fun jx => (sY sE)) (fun jx r h => h) (fun A w M => Rets.mono (sc_start sb s (M.enterW0 ⟨(M.wideR0 0 rfl), trivial⟩)) (fun v_ w_ ⟨e_, m⟩ => ⟨(), e_, (M.leaveW0 m).sel [0, 1] rfl (by decide), fun b hb => M.k0F m b hb⟩)) (fun w => CallsF.func Try.en58 rfl) (fun jx v hp hin => ?_)
  replace hp := hp.symm; subst hp
  clear hin
  refine tP (vP sb) rfl (fun w => (Step.move rfl)) ?_
  refine tP (vP sb) rfl (fun w => sP) ?_
  refine tP (Value.pointer (some ⟨sb, 3, none⟩)) rfl (fun w => sP) ?_
  refine tR (vS s.at_) rfl (fun A w M => (Step.load1 Try.sc9 rfl ((cell_blk (M.rep 0 rfl) 3).trans rfl))) ?_
  refine tP (vB ((startS s).toList == s.at_.toList)) rfl (fun w => sP) ?_
  refine tP (vB ((startS s).toList == s.at_.toList)) rfl (fun w => (Step.pick (t := true) rfl rfl)) ?_
  refine tP (vB ((startS s).toList == s.at_.toList)) rfl (fun w => (Step.assign rfl)) ?_
  refine TW.done (fun w4 M => ?_)
  refine W.seq' (W.block (wR (wM (vP sb) (wP (vP sb) (wP (Value.pointer (some ⟨sb, 2, none⟩)) ?_)))))
  refine wS (vB s.back) rfl (Step.load1 Try.sc4 rfl ((cell_blk (M.rep 0 rfl) 2).trans rfl)) (wM (vB s.back) ?_)
  rcases Bool.eq_false_or_eq_true (s.back) with h5 | h5
  ·
   rw [h5]
   refine wM (vB ((startS s).toList == s.at_.toList)) (wP (vB (!((startS s).toList == s.at_.toList))) (wS (vB (!((startS s).toList == s.at_.toList))) rfl (Step.pick (t := true) rfl rfl) (wM (vB (!((startS s).toList == s.at_.toList))) ?_)))
   rcases Bool.eq_false_or_eq_true (!((startS s).toList == s.at_.toList)) with h6 | h6
   ·
    rw [h6]
    refine wM (vP sb) (wP (vP sb) (wP (Value.pointer (some ⟨sb, 1, none⟩)) (wS (vS s.to_) rfl (Step.load1 Try.sc9 rfl ((cell_blk (M.rep 0 rfl) 1).trans rfl)) (wP (vB (s.to_.toList == sZ.toList)) (wS (vB (s.to_.toList == sZ.toList)) rfl (Step.pick (t := true) rfl rfl) ?_)))))
    refine wA (vB (s.to_.toList == sZ.toList)) (WL.nil ?_)
    refine W.cond (t := s.to_.toList == sZ.toList) rfl (fun h7 => ?_) (fun h7 => ?_)
    ·
     refine wR (wP (Value.func (.func 96) #[] #[(vP b1)]) (wA (Value.func (.func 96) #[] #[(vP b1)]) (WL.nil ?_)))
     refine W.ret ?_
     refine ⟨.inl rfl, (Value.func (.func 96) #[] #[(vP b1)]), ?_, ?_⟩
     · exact ⟨rfl, (Res.r1 (show RV _ _ _ (.tmp 4) (Value.func (.func 96) #[] #[(vP b1)]) from by exact rfl))⟩
     refine ⟨b1, ?_, M.close [0] rfl (by decide) trivial⟩
     rfl
    ·
     exfalso; unfold look1 insideS at hl; try simp only [sEq_dec] at *
     simp_all
   ·
    exfalso; unfold look1 insideS at hl; try simp only [sEq_dec] at *
    simp_all
  ·
   exfalso; unfold look1 insideS at hl; try simp only [sEq_dec] at *
   simp_all
 ·
  refine W.drawn M [0, 1, 2, 3, 4, 5, 6, 7, 8, 9, 10, 11, 12, 13] [6] [] _ _ (sY sE) (fun _ h => h) Try.mixed (by kernel_rfl) ?_
  refine tP (vP sb) rfl (fun w => (Step.move rfl)) ?_
  refine tP (vP sb) rfl (fun w => sP) ?_
  refine tP (Value.pointer (some ⟨sb, 4, none⟩)) rfl (fun w => sP) ?_
  refine tR (vB false) rfl (fun A w M => (Step.cast (congrArg Value.bool h3) (Step.load1 Try.sc4 rfl ((cell_blk (M.rep 0 rfl) 4).trans rfl)))) ?_
  refine tP (vB false) rfl (fun w => (Step.move rfl)) ?_
  refine TW.skip rfl rfl ?_
  refine TW.skip rfl rfl ?_
  refine TW.skip rfl rfl ?_
  refine TW.skip rfl rfl ?_
  refine TW.skip rfl rfl ?_
  refine TW.skip rfl rfl ?_
  refine TW.skip rfl rfl ?_
  refine tP (vB false) rfl (fun w => (Step.pick (t := false) rfl rfl)) ?_
  refine tP (vB false) rfl (fun w => (Step.assign rfl)) ?_
  refine TW.done (fun w8 M => ?_)
  refine W.seq' (W.block (wR (wM (vP sb) (wP (vP sb) (wP (Value.pointer (some ⟨sb, 2, none⟩)) ?_)))))
  refine wS (vB s.back) rfl (Step.load1 Try.sc4 rfl ((cell_blk (M.rep 0 rfl) 2).trans rfl)) (wM (vB s.back) ?_)
  rcases Bool.eq_false_or_eq_true (s.back) with h9 | h9
  ·
   rw [h9]
   refine wM (vB false) (wP (vB true) (wS (vB true) rfl (Step.pick (t := true) rfl rfl) (wM (vB true) (wM (vP sb) (wP (vP sb) ?_)))))
   refine wP (Value.pointer (some ⟨sb, 1, none⟩)) (wS (vS s.to_) rfl (Step.load1 Try.sc9 rfl ((cell_blk (M.rep 0 rfl) 1).trans rfl)) (wP (vB (s.to_.toList == sZ.toList)) (wS (vB (s.to_.toList == sZ.toList)) rfl (Step.pick (t := true) rfl rfl) (wA (vB (s.to_.toList == sZ.toList)) (WL.nil ?_)))))
   refine W.cond (t := s.to_.toList == sZ.toList) rfl (fun h10 => ?_) (fun h10 => ?_)
   ·
    refine wR (wP (Value.func (.func 96) #[] #[(vP b1)]) (wA (Value.func (.func 96) #[] #[(vP b1)]) (WL.nil ?_)))
    refine W.ret ?_
    refine ⟨.inl rfl, (Value.func (.func 96) #[] #[(vP b1)]), ?_, ?_⟩
    · exact ⟨rfl, (Res.r1 (show RV _ _ _ (.tmp 4) (Value.func (.func 96) #[] #[(vP b1)]) from by exact rfl))⟩
    refine ⟨b1, ?_, M.close [0] rfl (by decide) trivial⟩
    rfl
   ·
    exfalso; unfold look1 insideS at hl; try simp only [sEq_dec] at *
    simp_all
  ·
   exfalso; unfold look1 insideS at hl; try simp only [sEq_dec] at *
   simp_all
theorem sc_look2 {G : Nat → Prop} {w : World} (sb : Nat) (s : Scn) (tb : Nat)  (hl : look2 s = true) (M : Mem G (fun _ => False) w [] [bF sb #[(vS s.frm), (vS s.to_), (vB s.back), (vS s.at_), (vB s.told)] 88] w) : Rets Try.prog 57 #[(vP sb), (vP tb)] w fun r w' => r = (Value.func (.func 60) #[(vP tb)] #[]) ∧ Mem G (fun _ => False) w [] [] w' := by
 refine Rets.enter 49 _ Try.func57 rfl Try.ntmps57 Try.results57 (by simp) ?_
 refine wR ?_
 refine WL.box (v := (vP tb)) (c := #[(vP tb)]) M rfl rfl rfl (fun b1 w2 hb1 M => ?_)
 refine wA Value.nilFunc (WL.nil (W.seq' ?_))
 rcases Bool.eq_false_or_eq_true (s.told) with h3 | h3
 ·
  refine W.drawn M [0, 1, 2, 3, 4, 5, 6, 7, 8, 9, 10, 11, 12, 13] [6] [] _ _ (sY sE) (fun _ h => h) Try.mixed (by kernel_rfl) ?_
  refine tP (vP sb) rfl (fun w => (Step.move rfl)) ?_
  refine tP (vP sb) rfl (fun w => sP) ?_
  refine tP (Value.pointer (some ⟨sb, 4, none⟩)) rfl (fun w => sP) ?_
  refine tR (vB true) rfl (fun A w M => (Step.cast (congrArg Value.bool h3) (Step.load1 Try.sc4 rfl ((cell_blk (M.rep 0 rfl) 4).trans rfl)))) ?_
  refine tP (vB true) rfl (fun w => (Step.move rfl)) ?_
  refine tP (vP sb) rfl (fun w => (Step.move rfl)) ?_
  refine TW.callX (ι := Unit) (fun jx v_ => v_ = (vS (startS s))) (fun jx => [bk b1 #[(vP tb)] 26]) (fun jx => [bF sb #[(vS s.frm), (vS s.to_), (vB s.back), (vS s.at_), (vB s.told)] 88]) rfl (by decide) rfl (fun jx => (sY sE)) (fun jx r h => h) (fun A w M => Rets.mono (sc_start sb s (M.enterW0 ⟨(M.wideR0 0 rfl), trivial⟩)) (fun v_ w_ ⟨e_, m⟩ => ⟨(), e_, (M.leaveW0 m).sel [0, 1] rfl (by decide), fun b hb => M.k0F m b hb⟩)) (fun w => CallsF.func Try.en58 rfl) (fun jx v hp hin => ?_)
  replace hp := hp.symm; subst hp
  clear hin
  refine tP (vP sb) rfl (fun w => (Step.move rfl)) ?_
  refine tP (vP sb) rfl (fun w => sP) ?_
  refine tP (Value.pointer (some ⟨sb, 3, none⟩)) rfl (fun w => sP) ?_
  refine tR (vS s.at_) rfl (fun A w M => (Step.load1 Try.sc9 rfl ((cell_blk (M.rep 0 rfl) 3).trans rfl))) ?_
  refine tP (vB ((startS s).toList == s.at_.toList)) rfl (fun w => sP) ?_
  refine tP (vB ((startS s).toList == s.at_.toList)) rfl (fun w => (Step.pick (t := true) rfl rfl)) ?_
  refine tP (vB ((startS s).toList == s.at_.toList)) rfl (fun w => (Step.assign rfl)) ?_
  refine TW.done (fun w4 M => ?_)
  refine W.seq' (W.block (wR (wM (vP sb) (wP (vP sb) (wP (Value.pointer (some ⟨sb, 2, none⟩)) ?_)))))
  refine wS (vB s.back) rfl (Step.load1 Try.sc4 rfl ((cell_blk (M.rep 0 rfl) 2).trans rfl)) (wM (vB s.back) ?_)
  rcases Bool.eq_false_or_eq_true (s.back) with h5 | h5
  ·
   rw [h5]
   refine wM (vB ((startS s).toList == s.at_.toList)) (wP (vB (!((startS s).toList == s.at_.toList))) (wS (vB (!((startS s).toList == s.at_.toList))) rfl (Step.pick (t := true) rfl rfl) (wM (vB (!((startS s).toList == s.at_.toList))) ?_)))
   rcases Bool.eq_false_or_eq_true (!((startS s).toList == s.at_.toList)) with h6 | h6
   ·
    rw [h6]
    refine wM (vP sb) (wP (vP sb) (wP (Value.pointer (some ⟨sb, 1, none⟩)) (wS (vS s.to_) rfl (Step.load1 Try.sc9 rfl ((cell_blk (M.rep 0 rfl) 1).trans rfl)) (wP (vB (s.to_.toList == sZ.toList)) (wS (vB (s.to_.toList == sZ.toList)) rfl (Step.pick (t := true) rfl rfl) ?_)))))
    refine wA (vB (s.to_.toList == sZ.toList)) (WL.nil ?_)
    refine W.cond (t := s.to_.toList == sZ.toList) rfl (fun h7 => ?_) (fun h7 => ?_)
    ·
     exfalso; unfold look2 look1 insideS at hl; try simp only [sEq_dec] at *
     simp_all
    ·
     refine wR (wM (vP sb) (wP (vP sb) (wP (Value.pointer (some ⟨sb, 2, none⟩)) (wS (vB true) rfl (Step.cast (congrArg Value.bool h5) (Step.load1 Try.sc4 rfl ((cell_blk (M.rep 0 rfl) 2).trans rfl))) (wA (vB true) ?_)))))
     refine WL.nil ?_
     refine W.cond (t := true) rfl (fun _ => ?_) (fun h => by cases h)
     refine wR (wS (vP tb) rfl (Step.load1 Try.sc26 rfl ((M.cell 0 rfl 0).trans rfl)) (wP (Value.func (.func 60) #[(vP tb)] #[]) (wA (Value.func (.func 60) #[(vP tb)] #[]) (WL.nil ?_))))
     refine W.ret ?_
     refine ⟨.inl rfl, (Value.func (.func 60) #[(vP tb)] #[]), ?_, ?_⟩
     · exact ⟨rfl, (Res.r1 (show RV _ _ _ (.tmp 4) (Value.func (.func 60) #[(vP tb)] #[]) from by exact rfl))⟩
     refine ⟨?_, M.close [] rfl (by decide) trivial⟩
     rfl
   ·
    rw [h6]
    refine WL.pass rfl ?_
    refine WL.pass rfl ?_
    refine WL.pass rfl ?_
    refine WL.pass rfl ?_
    refine WL.pass rfl ?_
    refine wS (vB false) rfl (Step.pick (t := false) rfl rfl) (wA (vB false) (WL.nil ?_))
    refine W.cond (t := false) rfl (fun h => by cases h) (fun _ => ?_)
    refine wR (wM (vP sb) (wP (vP sb) (wP (Value.pointer (some ⟨sb, 2, none⟩)) (wS (vB true) rfl (Step.cast (congrArg Value.bool h5) (Step.load1 Try.sc4 rfl ((cell_blk (M.rep 0 rfl) 2).trans rfl))) (wA (vB true) ?_)))))
    refine WL.nil ?_
    refine W.cond (t := true) rfl (fun _ => ?_) (fun h => by cases h)
    refine wR (wS (vP tb) rfl (Step.load1 Try.sc26 rfl ((M.cell 0 rfl 0).trans rfl)) (wP (Value.func (.func 60) #[(vP tb)] #[]) (wA (Value.func (.func 60) #[(vP tb)] #[]) (WL.nil ?_))))
    refine W.ret ?_
    refine ⟨.inl rfl, (Value.func (.func 60) #[(vP tb)] #[]), ?_, ?_⟩
    · exact ⟨rfl, (Res.r1 (show RV _ _ _ (.tmp 4) (Value.func (.func 60) #[(vP tb)] #[]) from by exact rfl))⟩
    refine ⟨?_, M.close [] rfl (by decide) trivial⟩
    rfl
  ·
   exfalso; unfold look2 look1 insideS at hl; try simp only [sEq_dec] at *
   simp_all
 ·
  refine W.drawn M [0, 1, 2, 3, 4, 5, 6, 7, 8, 9, 10, 11, 12, 13] [6] [] _ _ (sY sE) (fun _ h => h) Try.mixed (by kernel_rfl) ?_
  refine tP (vP sb) rfl (fun w => (Step.move rfl)) ?_
  refine tP (vP sb) rfl (fun w => sP) ?_
  refine tP (Value.pointer (some ⟨sb, 4, none⟩)) rfl (fun w => sP) ?_
  refine tR (vB false) rfl (fun A w M => (Step.cast (congrArg Value.bool h3) (Step.load1 Try.sc4 rfl ((cell_blk (M.rep 0 rfl) 4).trans rfl)))) ?_
  refine tP (vB false) rfl (fun w => (Step.move rfl)) ?_
  refine TW.skip rfl rfl ?_
  refine TW.skip rfl rfl ?_
  refine TW.skip rfl rfl ?_
  refine TW.skip rfl rfl ?_
  refine TW.skip rfl rfl ?_
  refine TW.skip rfl rfl ?_
  refine TW.skip rfl rfl ?_
  refine tP (vB false) rfl (fun w => (Step.pick (t := false) rfl rfl)) ?_
  refine tP (vB false) rfl (fun w => (Step.assign rfl)) ?_
  refine TW.done (fun w8 M => ?_)
  refine W.seq' (W.block (wR (wM (vP sb) (wP (vP sb) (wP (Value.pointer (some ⟨sb, 2, none⟩)) ?_)))))
  refine wS (vB s.back) rfl (Step.load1 Try.sc4 rfl ((cell_blk (M.rep 0 rfl) 2).trans rfl)) (wM (vB s.back) ?_)
  rcases Bool.eq_false_or_eq_true (s.back) with h9 | h9
  ·
   rw [h9]
   refine wM (vB false) (wP (vB true) (wS (vB true) rfl (Step.pick (t := true) rfl rfl) (wM (vB true) (wM (vP sb) (wP (vP sb) ?_)))))
   refine wP (Value.pointer (some ⟨sb, 1, none⟩)) (wS (vS s.to_) rfl (Step.load1 Try.sc9 rfl ((cell_blk (M.rep 0 rfl) 1).trans rfl)) (wP (vB (s.to_.toList == sZ.toList)) (wS (vB (s.to_.toList == sZ.toList)) rfl (Step.pick (t := true) rfl rfl) (wA (vB (s.to_.toList == sZ.toList)) (WL.nil ?_)))))
   refine W.cond (t := s.to_.toList == sZ.toList) rfl (fun h10 => ?_) (fun h10 => ?_)
   ·
    exfalso; unfold look2 look1 insideS at hl; try simp only [sEq_dec] at *
    simp_all
   ·
    refine wR (wM (vP sb) (wP (vP sb) (wP (Value.pointer (some ⟨sb, 2, none⟩)) (wS (vB true) rfl (Step.cast (congrArg Value.bool h9) (Step.load1 Try.sc4 rfl ((cell_blk (M.rep 0 rfl) 2).trans rfl))) (wA (vB true) ?_)))))
    refine WL.nil ?_
    refine W.cond (t := true) rfl (fun _ => ?_) (fun h => by cases h)
    refine wR (wS (vP tb) rfl (Step.load1 Try.sc26 rfl ((M.cell 0 rfl 0).trans rfl)) (wP (Value.func (.func 60) #[(vP tb)] #[]) (wA (Value.func (.func 60) #[(vP tb)] #[]) (WL.nil ?_))))
    refine W.ret ?_
    refine ⟨.inl rfl, (Value.func (.func 60) #[(vP tb)] #[]), ?_, ?_⟩
    · exact ⟨rfl, (Res.r1 (show RV _ _ _ (.tmp 4) (Value.func (.func 60) #[(vP tb)] #[]) from by exact rfl))⟩
    refine ⟨?_, M.close [] rfl (by decide) trivial⟩
    rfl
  ·
   exfalso; unfold look2 look1 insideS at hl; try simp only [sEq_dec] at *
   simp_all
theorem sc_look3 {G : Nat → Prop} {w : World} (sb : Nat) (s : Scn) (tb : Nat)  (hl : look3 s = true) (M : Mem G (fun _ => False) w [] [bF sb #[(vS s.frm), (vS s.to_), (vB s.back), (vS s.at_), (vB s.told)] 88] w) : Rets Try.prog 57 #[(vP sb), (vP tb)] w fun r w' => r = (Value.func (.func 72) #[(vP tb)] #[]) ∧ Mem G (fun _ => False) w [] [] w' := by
 refine Rets.enter 49 _ Try.func57 rfl Try.ntmps57 Try.results57 (by simp) ?_
 refine wR ?_
 refine WL.box (v := (vP tb)) (c := #[(vP tb)]) M rfl rfl rfl (fun b1 w2 hb1 M => ?_)
 refine wA Value.nilFunc (WL.nil (W.seq' ?_))
 rcases Bool.eq_false_or_eq_true (s.told) with h3 | h3
 ·
  refine W.drawn M [0, 1, 2, 3, 4, 5, 6, 7, 8, 9, 10, 11, 12, 13] [6] [] _ _ (sY sE) (fun _ h => h) Try.mixed (by kernel_rfl) ?_
  refine tP (vP sb) rfl (fun w => (Step.move rfl)) ?_
  refine tP (vP sb) rfl (fun w => sP) ?_
  refine tP (Value.pointer (some ⟨sb, 4, none⟩)) rfl (fun w => sP) ?_
  refine tR (vB true) rfl (fun A w M => (Step.cast (congrArg Value.bool h3) (Step.load1 Try.sc4 rfl ((cell_blk (M.rep 0 rfl) 4).trans rfl)))) ?_
  refine tP (vB true) rfl (fun w => (Step.move rfl)) ?_
  refine tP (vP sb) rfl (fun w => (Step.move rfl)) ?_
  refine TW.callX (ι := Unit) (fun jx v_ => v_ = (vS (startS s))) (fun jx => [bk b1 #[(vP tb)] 26]) (fun jx => [bF sb #[(vS s.frm), (vS s.to_), (vB s.back), (vS s.at_), (vB s.told)] 88]) rfl (by decide) rfl (fun jx => (sY sE)) (fun jx r h => h) (fun A w M => Rets.mono (sc_start sb s (M.enterW0 ⟨(M.wideR0 0 rfl), trivial⟩)) (fun v_ w_ ⟨e_, m⟩ => ⟨(), e_, (M.leaveW0 m).sel [0, 1] rfl (by decide), fun b hb => M.k0F m b hb⟩)) (fun w => CallsF.func Try.en58 rfl) (fun jx v hp hin => ?_)
  replace hp := hp.symm; subst hp
  clear hin
  refine tP (vP sb) rfl (fun w => (Step.move rfl)) ?_
  refine tP (vP sb) rfl (fun w => sP) ?_
  refine tP (Value.pointer (some ⟨sb, 3, none⟩)) rfl (fun w => sP) ?_
  refine tR (vS s.at_) rfl (fun A w M => (Step.load1 Try.sc9 rfl ((cell_blk (M.rep 0 rfl) 3).trans rfl))) ?_
  refine tP (vB ((startS s).toList == s.at_.toList)) rfl (fun w => sP) ?_
  refine tP (vB ((startS s).toList == s.at_.toList)) rfl (fun w => (Step.pick (t := true) rfl rfl)) ?_
  refine tP (vB ((startS s).toList == s.at_.toList)) rfl (fun w => (Step.assign rfl)) ?_
  refine TW.done (fun w4 M => ?_)
  refine W.seq' (W.block (wR (wM (vP sb) (wP (vP sb) (wP (Value.pointer (some ⟨sb, 2, none⟩)) ?_)))))
  refine wS (vB s.back) rfl (Step.load1 Try.sc4 rfl ((cell_blk (M.rep 0 rfl) 2).trans rfl)) (wM (vB s.back) ?_)
  rcases Bool.eq_false_or_eq_true (s.back) with h5 | h5
  ·
   exfalso; unfold look3 insideS at hl; try simp only [sEq_dec] at *
   simp_all
  ·
   rw [h5]
   refine WL.pass rfl ?_
   refine WL.pass rfl ?_
   refine wS (vB false) rfl (Step.pick (t := false) rfl rfl) (wM (vB false) ?_)
   refine WL.pass rfl ?_
   refine WL.pass rfl ?_
   refine WL.pass rfl ?_
   refine WL.pass rfl ?_
   refine WL.pass rfl ?_
   refine wS (vB false) rfl (Step.pick (t := false) rfl rfl) (wA (vB false) (WL.nil ?_))
   refine W.cond (t := false) rfl (fun h => by cases h) (fun _ => ?_)
   refine wR (wM (vP sb) (wP (vP sb) (wP (Value.pointer (some ⟨sb, 2, none⟩)) (wS (vB false) rfl (Step.cast (congrArg Value.bool h5) (Step.load1 Try.sc4 rfl ((cell_blk (M.rep 0 rfl) 2).trans rfl))) (wA (vB false) ?_)))))
   refine WL.nil ?_
   refine W.cond (t := false) rfl (fun h => by cases h) (fun _ => ?_)
   refine wR (wM (vB ((startS s).toList == s.at_.toList)) (wA (vB ((startS s).toList == s.at_.toList)) (WL.nil ?_)))
   refine W.cond (t := (startS s).toList == s.at_.toList) rfl (fun h6 => ?_) (fun h6 => ?_)
   ·
    refine wR (wS (vP tb) rfl (Step.load1 Try.sc26 rfl ((M.cell 0 rfl 0).trans rfl)) (wP (Value.func (.func 72) #[(vP tb)] #[]) (wA (Value.func (.func 72) #[(vP tb)] #[]) (WL.nil ?_))))
    refine W.ret ?_
    refine ⟨.inl rfl, (Value.func (.func 72) #[(vP tb)] #[]), ?_, ?_⟩
    · exact ⟨rfl, (Res.r1 (show RV _ _ _ (.tmp 4) (Value.func (.func 72) #[(vP tb)] #[]) from by exact rfl))⟩
    refine ⟨?_, M.close [] rfl (by decide) trivial⟩
    rfl
   ·
    exfalso; unfold look3 insideS at hl; try simp only [sEq_dec] at *
    simp_all
 ·
  exfalso; unfold look3 insideS at hl; try simp only [sEq_dec] at *
  simp_all
theorem sc_look4 {G : Nat → Prop} {w : World} (sb : Nat) (s : Scn) (tb : Nat)  (hl : look4 s = true) (M : Mem G (fun _ => False) w [] [bF sb #[(vS s.frm), (vS s.to_), (vB s.back), (vS s.at_), (vB s.told)] 88] w) : Rets Try.prog 57 #[(vP sb), (vP tb)] w fun r w' => r = (Value.func (.func 45) #[(vP tb)] #[]) ∧ Mem G (fun _ => False) w [] [] w' := by
 refine Rets.enter 49 _ Try.func57 rfl Try.ntmps57 Try.results57 (by simp) ?_
 refine wR ?_
 refine WL.box (v := (vP tb)) (c := #[(vP tb)]) M rfl rfl rfl (fun b1 w2 hb1 M => ?_)
 refine wA Value.nilFunc (WL.nil (W.seq' ?_))
 rcases Bool.eq_false_or_eq_true (s.told) with h3 | h3
 ·
  refine W.drawn M [0, 1, 2, 3, 4, 5, 6, 7, 8, 9, 10, 11, 12, 13] [6] [] _ _ (sY sE) (fun _ h => h) Try.mixed (by kernel_rfl) ?_
  refine tP (vP sb) rfl (fun w => (Step.move rfl)) ?_
  refine tP (vP sb) rfl (fun w => sP) ?_
  refine tP (Value.pointer (some ⟨sb, 4, none⟩)) rfl (fun w => sP) ?_
  refine tR (vB true) rfl (fun A w M => (Step.cast (congrArg Value.bool h3) (Step.load1 Try.sc4 rfl ((cell_blk (M.rep 0 rfl) 4).trans rfl)))) ?_
  refine tP (vB true) rfl (fun w => (Step.move rfl)) ?_
  refine tP (vP sb) rfl (fun w => (Step.move rfl)) ?_
  refine TW.callX (ι := Unit) (fun jx v_ => v_ = (vS (startS s))) (fun jx => [bk b1 #[(vP tb)] 26]) (fun jx => [bF sb #[(vS s.frm), (vS s.to_), (vB s.back), (vS s.at_), (vB s.told)] 88]) rfl (by decide) rfl (fun jx => (sY sE)) (fun jx r h => h) (fun A w M => Rets.mono (sc_start sb s (M.enterW0 ⟨(M.wideR0 0 rfl), trivial⟩)) (fun v_ w_ ⟨e_, m⟩ => ⟨(), e_, (M.leaveW0 m).sel [0, 1] rfl (by decide), fun b hb => M.k0F m b hb⟩)) (fun w => CallsF.func Try.en58 rfl) (fun jx v hp hin => ?_)
  replace hp := hp.symm; subst hp
  clear hin
  refine tP (vP sb) rfl (fun w => (Step.move rfl)) ?_
  refine tP (vP sb) rfl (fun w => sP) ?_
  refine tP (Value.pointer (some ⟨sb, 3, none⟩)) rfl (fun w => sP) ?_
  refine tR (vS s.at_) rfl (fun A w M => (Step.load1 Try.sc9 rfl ((cell_blk (M.rep 0 rfl) 3).trans rfl))) ?_
  refine tP (vB ((startS s).toList == s.at_.toList)) rfl (fun w => sP) ?_
  refine tP (vB ((startS s).toList == s.at_.toList)) rfl (fun w => (Step.pick (t := true) rfl rfl)) ?_
  refine tP (vB ((startS s).toList == s.at_.toList)) rfl (fun w => (Step.assign rfl)) ?_
  refine TW.done (fun w4 M => ?_)
  refine W.seq' (W.block (wR (wM (vP sb) (wP (vP sb) (wP (Value.pointer (some ⟨sb, 2, none⟩)) ?_)))))
  refine wS (vB s.back) rfl (Step.load1 Try.sc4 rfl ((cell_blk (M.rep 0 rfl) 2).trans rfl)) (wM (vB s.back) ?_)
  rcases Bool.eq_false_or_eq_true (s.back) with h5 | h5
  ·
   exfalso; unfold look4 insideS at hl; try simp only [sEq_dec] at *
   simp_all
  ·
   rw [h5]
   refine WL.pass rfl ?_
   refine WL.pass rfl ?_
   refine wS (vB false) rfl (Step.pick (t := false) rfl rfl) (wM (vB false) ?_)
   refine WL.pass rfl ?_
   refine WL.pass rfl ?_
   refine WL.pass rfl ?_
   refine WL.pass rfl ?_
   refine WL.pass rfl ?_
   refine wS (vB false) rfl (Step.pick (t := false) rfl rfl) (wA (vB false) (WL.nil ?_))
   refine W.cond (t := false) rfl (fun h => by cases h) (fun _ => ?_)
   refine wR (wM (vP sb) (wP (vP sb) (wP (Value.pointer (some ⟨sb, 2, none⟩)) (wS (vB false) rfl (Step.cast (congrArg Value.bool h5) (Step.load1 Try.sc4 rfl ((cell_blk (M.rep 0 rfl) 2).trans rfl))) (wA (vB false) ?_)))))
   refine WL.nil ?_
   refine W.cond (t := false) rfl (fun h => by cases h) (fun _ => ?_)
   refine wR (wM (vB ((startS s).toList == s.at_.toList)) (wA (vB ((startS s).toList == s.at_.toList)) (WL.nil ?_)))
   refine W.cond (t := (startS s).toList == s.at_.toList) rfl (fun h6 => ?_) (fun h6 => ?_)
   ·
    exfalso; unfold look4 insideS at hl; try simp only [sEq_dec] at *
    simp_all
   ·
    refine W.skip (wR (wS (vP tb) rfl (Step.load1 Try.sc26 rfl ((M.cell 0 rfl 0).trans rfl)) (wP (Value.func (.func 45) #[(vP tb)] #[]) (wA (Value.func (.func 45) #[(vP tb)] #[]) (WL.nil ?_)))))
    refine W.ret ?_
    refine ⟨.inl rfl, (Value.func (.func 45) #[(vP tb)] #[]), ?_, ?_⟩
    · exact ⟨rfl, (Res.r1 (show RV _ _ _ (.tmp 4) (Value.func (.func 45) #[(vP tb)] #[]) from by exact rfl))⟩
    refine ⟨?_, M.close [] rfl (by decide) trivial⟩
    rfl
 ·
  refine W.drawn M [0, 1, 2, 3, 4, 5, 6, 7, 8, 9, 10, 11, 12, 13] [6] [] _ _ (sY sE) (fun _ h => h) Try.mixed (by kernel_rfl) ?_
  refine tP (vP sb) rfl (fun w => (Step.move rfl)) ?_
  refine tP (vP sb) rfl (fun w => sP) ?_
  refine tP (Value.pointer (some ⟨sb, 4, none⟩)) rfl (fun w => sP) ?_
  refine tR (vB false) rfl (fun A w M => (Step.cast (congrArg Value.bool h3) (Step.load1 Try.sc4 rfl ((cell_blk (M.rep 0 rfl) 4).trans rfl)))) ?_
  refine tP (vB false) rfl (fun w => (Step.move rfl)) ?_
  refine TW.skip rfl rfl ?_
  refine TW.skip rfl rfl ?_
  refine TW.skip rfl rfl ?_
  refine TW.skip rfl rfl ?_
  refine TW.skip rfl rfl ?_
  refine TW.skip rfl rfl ?_
  refine TW.skip rfl rfl ?_
  refine tP (vB false) rfl (fun w => (Step.pick (t := false) rfl rfl)) ?_
  refine tP (vB false) rfl (fun w => (Step.assign rfl)) ?_
  refine TW.done (fun w7 M => ?_)
  refine W.seq' (W.block (wR (wM (vP sb) (wP (vP sb) (wP (Value.pointer (some ⟨sb, 2, none⟩)) ?_)))))
  refine wS (vB s.back) rfl (Step.load1 Try.sc4 rfl ((cell_blk (M.rep 0 rfl) 2).trans rfl)) (wM (vB s.back) ?_)
  rcases Bool.eq_false_or_eq_true (s.back) with h8 | h8
  ·
   exfalso; unfold look4 insideS at hl; try simp only [sEq_dec] at *
   simp_all
  ·
   rw [h8]
   refine WL.pass rfl ?_
   refine WL.pass rfl ?_
   refine wS (vB false) rfl (Step.pick (t := false) rfl rfl) (wM (vB false) ?_)
   refine WL.pass rfl ?_
   refine WL.pass rfl ?_
   refine WL.pass rfl ?_
   refine WL.pass rfl ?_
   refine WL.pass rfl ?_
   refine wS (vB false) rfl (Step.pick (t := false) rfl rfl) (wA (vB false) (WL.nil ?_))
   refine W.cond (t := false) rfl (fun h => by cases h) (fun _ => ?_)
   refine wR (wM (vP sb) (wP (vP sb) (wP (Value.pointer (some ⟨sb, 2, none⟩)) (wS (vB false) rfl (Step.cast (congrArg Value.bool h8) (Step.load1 Try.sc4 rfl ((cell_blk (M.rep 0 rfl) 2).trans rfl))) (wA (vB false) ?_)))))
   refine WL.nil ?_
   refine W.cond (t := false) rfl (fun h => by cases h) (fun _ => ?_)
   refine wR (wM (vB false) (wA (vB false) (WL.nil ?_)))
   refine W.cond (t := false) rfl (fun h => by cases h) (fun _ => ?_)
   refine W.skip (wR (wS (vP tb) rfl (Step.load1 Try.sc26 rfl ((M.cell 0 rfl 0).trans rfl)) (wP (Value.func (.func 45) #[(vP tb)] #[]) (wA (Value.func (.func 45) #[(vP tb)] #[]) (WL.nil ?_)))))
   refine W.ret ?_
   refine ⟨.inl rfl, (Value.func (.func 45) #[(vP tb)] #[]), ?_, ?_⟩
   · exact ⟨rfl, (Res.r1 (show RV _ _ _ (.tmp 4) (Value.func (.func 45) #[(vP tb)] #[]) from by exact rfl))⟩
   refine ⟨?_, M.close [] rfl (by decide) trivial⟩
   rfl
end Go.Proofs
set_option maxRecDepth 100000
namespace Go.Proofs
open Go Tp
theorem Try.en25 : Enters Try.prog 25 := fun _ _ => by kernel_rfl
theorem Try.en57 : Enters Try.prog 57 := fun _ _ => by kernel_rfl
theorem Try.en59 : Enters Try.prog 59 := fun _ _ => by kernel_rfl
theorem Try.en96 : Enters Try.prog 96 := fun _ _ => by kernel_rfl
theorem sc_peek {G X : Nat → Prop} {w : World} (sb : Nat) (s : Scn) (tb : Nat) (S : Nat → Prop) (row : List THit) (c : Nat)  (hc : c ≤ 900) (M : Mem G X w [tT S tb row c] [bF sb #[(vS s.frm), (vS s.to_), (vB s.back), (vS s.at_), (vB s.told)] 88] w) : Rets Try.prog 25 #[(vP sb), (vP tb)] w fun r w' => r = (Value.tuple #[(Value.agg #[(vS (((peekR s row).1).key)), (vI (((peekR s row).1).val))]), (vB ((peekR s row).2))]) ∧ Mem G X w [tT S tb row c] [] w' := by
 refine Rets.enter 35 _ Try.func25 rfl Try.ntmps25 Try.results25 (by simp) ?_
 obtain ⟨hu_, hrc_⟩ := tabC_up (M.chunk 0 rfl).inv
 refine wR ?_
 refine WL.alloc (c := #[(vS sZ), (vI 0)]) M rfl Try.el41.zero rfl (fun b1 w2 hb1 M => ?_)
 refine wA (vB false) (WL.nil (W.seq' (wR (wM (vP sb) (wP (vB false) ?_)))))
 refine wM (vB false) (wM (vP tb) (wP (vB false) (wS (vB false) rfl (Step.pick (t := false) rfl rfl) (WL.nil ?_))))
 refine W.cond (t := false) rfl (fun h => by cases h) (fun _ => ?_)
 refine W.skip (wR (wM (vP sb) (wM (vP tb) ?_)))
 rcases Bool.eq_false_or_eq_true (look1 s) with h3 | h3
 ·
  refine WL.callX rfl (sc_look1 sb s tb h3 (M.enterW0 ⟨(M.wideR0 0 rfl), trivial⟩)) (CallsF.func Try.en57 rfl) ?_
  rintro _ w5 ⟨b4, rfl, m⟩
  replace M := M.leaveW0 m
  clear m
  refine wM (vP sb) ?_
  refine WL.callX rfl (sc_start sb s (M.enterW0 ⟨(M.wideR0 0 rfl), trivial⟩)) (CallsF.func Try.en58 rfl) ?_
  rintro _ w6 ⟨rfl, m⟩
  replace M := M.leaveW0 m
  clear m
  have fq := M.frm [tT S tb row c] [bk b4 #[(vP tb)] 26, bk b1 #[(vS sZ), (vI 0)] 41] [2, 0, 1] rfl
  refine WL.callX rfl (sc_last (startS s) b4 tb S row c (by first | assumption | omega) (M.eF fq ⟨(M.cF fq 0 rfl), trivial⟩)) (CallsF.value Try.en96 rfl rfl rfl) ?_
  rintro _ w7 ⟨rfl, m⟩
  replace M := M.lF fq m
  clear m
  refine wM (Value.tuple #[(Value.agg #[(vS (((tailL row).1).key)), (vI (((tailL row).1).val))]), (vB ((tailL row).2))]) (wP (Value.agg #[(vS (((tailL row).1).key)), (vI (((tailL row).1).val))]) (wP (vB ((tailL row).2)) ?_))
  refine WL.alloc (c := #[(vS sZ), (vI 0)]) M rfl Try.el41.zero rfl (fun b8 w9 hb8 M => ?_)
  refine WL.store (v := (Value.agg #[(vS (((tailL row).1).key)), (vI (((tailL row).1).val))])) (cs := [(vS (((tailL row).1).key)), (vI (((tailL row).1).val))]) (c' := #[(vS (((tailL row).1).key)), (vI (((tailL row).1).val))]) M 0 rfl rfl Try.el41.sized rfl rfl rfl rfl (Nat.le_of_ble_eq_true rfl) (cel_cons rfl (cel_cons rfl cel_nil)) rfl rfl (fun w10 M => ?_)
  refine wA (vB ((tailL row).2)) (WL.nil (W.seq' (W.seq' ?_)))
  replace M := M.loseI 2
  refine W.region rfl (wM (vB ((tailL row).2)) (wP (vB (!((tailL row).2))) (wM (vB (!((tailL row).2))) ?_)))
  rcases Bool.eq_false_or_eq_true (!((tailL row).2)) with h11 | h11
  ·
   rw [h11]
   refine WL.pass rfl ?_
   refine WL.pass rfl ?_
   refine WL.pass rfl ?_
   refine WL.pass rfl ?_
   refine WL.pass rfl ?_
   refine wS (vB true) rfl (Step.pick (t := true) rfl rfl) (WL.nil ?_)
   refine W.cond (t := true) rfl (fun _ => ?_) (fun h => by cases h)
   refine wR (wP (Value.agg #[(vS sZ), (vI 0)]) ?_)
   refine WL.store (v := (Value.agg #[(vS sZ), (vI 0)])) (cs := [(vS sZ), (vI 0)]) (c' := #[(vS sZ), (vI 0)]) M 2 rfl rfl Try.el41.sized rfl rfl rfl rfl (Nat.le_of_ble_eq_true rfl) (cel_cons rfl (cel_cons rfl cel_nil)) rfl rfl (fun w12 M => ?_)
   refine wA (vB false) (WL.nil ?_)
   refine W.ret ?_
   refine ⟨.inl rfl, (Value.tuple #[(Value.agg #[(vS sZ), (vI 0)]), (vB false)]), ?_, ?_⟩
   · exact ⟨rfl, (Res.r2 (RV.cellN Try.ag41 rfl (M.blk 2 rfl) rfl) (show RV _ _ _ (.tmp 5) (vB false) from by exact rfl))⟩
   refine ⟨?_, M.close [1] rfl (by decide) trivial⟩
   rw [peek1 hu_ (by assumption)]
   rw [chk_miss (by simpa using h11)]; rfl
  ·
   rw [h11]
   refine wM (vP sb) (wP (vP b8) (wS (vS (((tailL row).1).key)) rfl (Step.load1 Try.sc9 rfl ((M.cell 0 rfl 0).trans rfl)) ?_))
   refine WL.callX rfl (sc_within sb s (((tailL row).1).key) (M.enterW0 ⟨(M.wideR0 0 rfl), trivial⟩)) (CallsF.func Try.en59 rfl) ?_
   rintro _ w13 ⟨rfl, m⟩
   replace M := M.leaveW0 m
   clear m
   refine wP (vB (!(withinS s (((tailL row).1).key)))) (wS (vB (!(withinS s (((tailL row).1).key)))) rfl (Step.pick (t := false) rfl rfl) (WL.nil ?_))
   refine W.cond (t := !(withinS s (((tailL row).1).key))) rfl (fun h14 => ?_) (fun h14 => ?_)
   ·
    refine wR (wP (Value.agg #[(vS sZ), (vI 0)]) ?_)
    refine WL.store (v := (Value.agg #[(vS sZ), (vI 0)])) (cs := [(vS sZ), (vI 0)]) (c' := #[(vS sZ), (vI 0)]) M 2 rfl rfl Try.el41.sized rfl rfl rfl rfl (Nat.le_of_ble_eq_true rfl) (cel_cons rfl (cel_cons rfl cel_nil)) rfl rfl (fun w15 M => ?_)
    refine wA (vB false) (WL.nil ?_)
    refine W.ret ?_
    refine ⟨.inl rfl, (Value.tuple #[(Value.agg #[(vS sZ), (vI 0)]), (vB false)]), ?_, ?_⟩
    · exact ⟨rfl, (Res.r2 (RV.cellN Try.ag41 rfl (M.blk 2 rfl) rfl) (show RV _ _ _ (.tmp 5) (vB false) from by exact rfl))⟩
    refine ⟨?_, M.close [1] rfl (by decide) trivial⟩
    rw [peek1 hu_ (by assumption)]
    rw [chk_out (by simpa using h14)]; rfl
   ·
    refine W.skip (wR (wS (Value.agg #[(vS (((tailL row).1).key)), (vI (((tailL row).1).val))]) rfl (Step.loadN Try.ag41 rfl (M.blk 0 rfl) (Nat.le_of_ble_eq_true rfl) rfl) ?_))
    refine WL.store (v := (Value.agg #[(vS (((tailL row).1).key)), (vI (((tailL row).1).val))])) (cs := [(vS (((tailL row).1).key)), (vI (((tailL row).1).val))]) (c' := #[(vS (((tailL row).1).key)), (vI (((tailL row).1).val))]) M 2 rfl rfl Try.el41.sized rfl rfl rfl rfl (Nat.le_of_ble_eq_true rfl) (cel_cons rfl (cel_cons rfl cel_nil)) rfl rfl (fun w16 M => ?_)
    refine wA (vB true) (WL.nil ?_)
    refine W.ret ?_
    refine ⟨.inl rfl, (Value.tuple #[(Value.agg #[(vS (((tailL row).1).key)), (vI (((tailL row).1).val))]), (vB true)]), ?_, ?_⟩
    · exact ⟨rfl, (Res.r2 (RV.cellN Try.ag41 rfl (M.blk 2 rfl) rfl) (show RV _ _ _ (.tmp 5) (vB true) from by exact rfl))⟩
    refine ⟨?_, M.close [1] rfl (by decide) trivial⟩
    rw [peek1 hu_ (by assumption)]
    rw [chk_in (by simpa using h11) (by simpa using h14)]; first | rfl | (simp_all; done)
 ·
  rcases Bool.eq_false_or_eq_true (look2 s) with h17 | h17
  ·
   refine WL.callX rfl (sc_look2 sb s tb h17 (M.enterW0 ⟨(M.wideR0 0 rfl), trivial⟩)) (CallsF.func Try.en57 rfl) ?_
   rintro _ w18 ⟨rfl, m⟩
   replace M := M.leaveW0 m
   clear m
   refine wM (vP sb) ?_
   refine WL.callX rfl (sc_start sb s (M.enterW0 ⟨(M.wideR0 0 rfl), trivial⟩)) (CallsF.func Try.en58 rfl) ?_
   rintro _ w19 ⟨rfl, m⟩
   replace M := M.leaveW0 m
   clear m
   have fq := M.frm [tT S tb row c] [bk b1 #[(vS sZ), (vI 0)] 41] [1, 0] rfl
   refine WL.callX rfl (T_before tb S row c (startS s) (by first | assumption | omega) (M.eF fq trivial)) (CallsF.value Try.en60 rfl rfl rfl) ?_
   rintro _ w20 ⟨rfl, m⟩
   replace M := M.lF fq m
   clear m
   refine wM (Value.tuple #[(Value.agg #[(vS (((beforeL row (startS s)).1).key)), (vI (((beforeL row (startS s)).1).val))]), (vB ((beforeL row (startS s)).2))]) (wP (Value.agg #[(vS (((beforeL row (startS s)).1).key)), (vI (((beforeL row (startS s)).1).val))]) (wP (vB ((beforeL row (startS s)).2)) ?_))
   refine WL.alloc (c := #[(vS sZ), (vI 0)]) M rfl Try.el41.zero rfl (fun b21 w22 hb21 M => ?_)
   refine WL.store (v := (Value.agg #[(vS (((beforeL row (startS s)).1).key)), (vI (((beforeL row (startS s)).1).val))])) (cs := [(vS (((beforeL row (startS s)).1).key)), (vI (((beforeL row (startS s)).1).val))]) (c' := #[(vS (((beforeL row (startS s)).1).key)), (vI (((beforeL row (startS s)).1).val))]) M 0 rfl rfl Try.el41.sized rfl rfl rfl rfl (Nat.le_of_ble_eq_true rfl) (cel_cons rfl (cel_cons rfl cel_nil)) rfl rfl (fun w23 M => ?_)
   refine wA (vB ((beforeL row (startS s)).2)) (WL.nil (W.seq' (wR (wM (vB ((beforeL row (startS s)).2)) (wP (vB (!((beforeL row (startS s)).2))) ?_)))))
   refine wM (vB (!((beforeL row (startS s)).2))) ?_
   rcases Bool.eq_false_or_eq_true (!((beforeL row (startS s)).2)) with h24 | h24
   ·
    rw [h24]
    refine WL.pass rfl ?_
    refine WL.pass rfl ?_
    refine WL.pass rfl ?_
    refine WL.pass rfl ?_
    refine WL.pass rfl ?_
    refine wS (vB true) rfl (Step.pick (t := true) rfl rfl) (WL.nil ?_)
    refine W.cond (t := true) rfl (fun _ => ?_) (fun h => by cases h)
    refine wR (wP (Value.agg #[(vS sZ), (vI 0)]) ?_)
    refine WL.store (v := (Value.agg #[(vS sZ), (vI 0)])) (cs := [(vS sZ), (vI 0)]) (c' := #[(vS sZ), (vI 0)]) M 2 rfl rfl Try.el41.sized rfl rfl rfl rfl (Nat.le_of_ble_eq_true rfl) (cel_cons rfl (cel_cons rfl cel_nil)) rfl rfl (fun w25 M => ?_)
    refine wA (vB false) (WL.nil ?_)
    refine W.ret ?_
    refine ⟨.inl rfl, (Value.tuple #[(Value.agg #[(vS sZ), (vI 0)]), (vB false)]), ?_, ?_⟩
    · exact ⟨rfl, (Res.r2 (RV.cellN Try.ag41 rfl (M.blk 2 rfl) rfl) (show RV _ _ _ (.tmp 5) (vB false) from by exact rfl))⟩
    refine ⟨?_, M.close [1] rfl (by decide) trivial⟩
    rw [peek2 hu_ (by assumption)]
    rw [chk_miss (by simpa using h24)]; rfl
   ·
    rw [h24]
    refine wM (vP sb) (wP (vP b21) (wS (vS (((beforeL row (startS s)).1).key)) rfl (Step.load1 Try.sc9 rfl ((M.cell 0 rfl 0).trans rfl)) ?_))
    refine WL.callX rfl (sc_within sb s (((beforeL row (startS s)).1).key) (M.enterW0 ⟨(M.wideR0 0 rfl), trivial⟩)) (CallsF.func Try.en59 rfl) ?_
    rintro _ w26 ⟨rfl, m⟩
    replace M := M.leaveW0 m
    clear m
    refine wP (vB (!(withinS s (((beforeL row (startS s)).1).key)))) (wS (vB (!(withinS s (((beforeL row (startS s)).1).key)))) rfl (Step.pick (t := false) rfl rfl) (WL.nil ?_))
    refine W.cond (t := !(withinS s (((beforeL row (startS s)).1).key))) rfl (fun h27 => ?_) (fun h27 => ?_)
    ·
     refine wR (wP (Value.agg #[(vS sZ), (vI 0)]) ?_)
     refine WL.store (v := (Value.agg #[(vS sZ), (vI 0)])) (cs := [(vS sZ), (vI 0)]) (c' := #[(vS sZ), (vI 0)]) M 2 rfl rfl Try.el41.sized rfl rfl rfl rfl (Nat.le_of_ble_eq_true rfl) (cel_cons rfl (cel_cons rfl cel_nil)) rfl rfl (fun w28 M => ?_)
     refine wA (vB false) (WL.nil ?_)
     refine W.ret ?_
     refine ⟨.inl rfl, (Value.tuple #[(Value.agg #[(vS sZ), (vI 0)]), (vB false)]), ?_, ?_⟩
     · exact ⟨rfl, (Res.r2 (RV.cellN Try.ag41 rfl (M.blk 2 rfl) rfl) (show RV _ _ _ (.tmp 5) (vB false) from by exact rfl))⟩
     refine ⟨?_, M.close [1] rfl (by decide) trivial⟩
     rw [peek2 hu_ (by assumption)]
     rw [chk_out (by simpa using h27)]; rfl
    ·
     refine W.skip (wR (wS (Value.agg #[(vS (((beforeL row (startS s)).1).key)), (vI (((beforeL row (startS s)).1).val))]) rfl (Step.loadN Try.ag41 rfl (M.blk 0 rfl) (Nat.le_of_ble_eq_true rfl) rfl) ?_))
     refine WL.store (v := (Value.agg #[(vS (((beforeL row (startS s)).1).key)), (vI (((beforeL row (startS s)).1).val))])) (cs := [(vS (((beforeL row (startS s)).1).key)), (vI (((beforeL row (startS s)).1).val))]) (c' := #[(vS (((beforeL row (startS s)).1).key)), (vI (((beforeL row (startS s)).1).val))]) M 2 rfl rfl Try.el41.sized rfl rfl rfl rfl (Nat.le_of_ble_eq_true rfl) (cel_cons rfl (cel_cons rfl cel_nil)) rfl rfl (fun w29 M => ?_)
     refine wA (vB true) (WL.nil ?_)
     refine W.ret ?_
     refine ⟨.inl rfl, (Value.tuple #[(Value.agg #[(vS (((beforeL row (startS s)).1).key)), (vI (((beforeL row (startS s)).1).val))]), (vB true)]), ?_, ?_⟩
     · exact ⟨rfl, (Res.r2 (RV.cellN Try.ag41 rfl (M.blk 2 rfl) rfl) (show RV _ _ _ (.tmp 5) (vB true) from by exact rfl))⟩
     refine ⟨?_, M.close [1] rfl (by decide) trivial⟩
     rw [peek2 hu_ (by assumption)]
     rw [chk_in (by simpa using h24) (by simpa using h27)]; first | rfl | (simp_all; done)
  ·
   rcases Bool.eq_false_or_eq_true (look3 s) with h30 | h30
   ·
    refine WL.callX rfl (sc_look3 sb s tb h30 (M.enterW0 ⟨(M.wideR0 0 rfl), trivial⟩)) (CallsF.func Try.en57 rfl) ?_
    rintro _ w31 ⟨rfl, m⟩
    replace M := M.leaveW0 m
    clear m
    refine wM (vP sb) ?_
    refine WL.callX rfl (sc_start sb s (M.enterW0 ⟨(M.wideR0 0 rfl), trivial⟩)) (CallsF.func Try.en58 rfl) ?_
    rintro _ w32 ⟨rfl, m⟩
    replace M := M.leaveW0 m
    clear m
    have fq := M.frm [tT S tb row c] [bk b1 #[(vS sZ), (vI 0)] 41] [1, 0] rfl
    refine WL.callX rfl (T_after tb S row c (startS s) (by first | assumption | omega) (M.eF fq trivial)) (CallsF.value Try.en72 rfl rfl rfl) ?_
    rintro _ w33 ⟨rfl, m⟩
    replace M := M.lF fq m
    clear m
    refine wM (Value.tuple #[(Value.agg #[(vS (((afterL row (startS s)).1).key)), (vI (((afterL row (startS s)).1).val))]), (vB ((afterL row (startS s)).2))]) (wP (Value.agg #[(vS (((afterL row (startS s)).1).key)), (vI (((afterL row (startS s)).1).val))]) (wP (vB ((afterL row (startS s)).2)) ?_))
    refine WL.alloc (c := #[(vS sZ), (vI 0)]) M rfl Try.el41.zero rfl (fun b34 w35 hb34 M => ?_)
    refine WL.store (v := (Value.agg #[(vS (((afterL row (startS s)).1).key)), (vI (((afterL row (startS s)).1).val))])) (cs := [(vS (((afterL row (startS s)).1).key)), (vI (((afterL row (startS s)).1).val))]) (c' := #[(vS (((afterL row (startS s)).1).key)), (vI (((afterL row (startS s)).1).val))]) M 0 rfl rfl Try.el41.sized rfl rfl rfl rfl (Nat.le_of_ble_eq_true rfl) (cel_cons rfl (cel_cons rfl cel_nil)) rfl rfl (fun w36 M => ?_)
    refine wA (vB ((afterL row (startS s)).2)) (WL.nil (W.seq' (wR (wM (vB ((afterL row (startS s)).2)) (wP (vB (!((afterL row (startS s)).2))) ?_)))))
    refine wM (vB (!((afterL row (startS s)).2))) ?_
    rcases Bool.eq_false_or_eq_true (!((afterL row (startS s)).2)) with h37 | h37
    ·
     rw [h37]
     refine WL.pass rfl ?_
     refine WL.pass rfl ?_
     refine WL.pass rfl ?_
     refine WL.pass rfl ?_
     refine WL.pass rfl ?_
     refine wS (vB true) rfl (Step.pick (t := true) rfl rfl) (WL.nil ?_)
     refine W.cond (t := true) rfl (fun _ => ?_) (fun h => by cases h)
     refine wR (wP (Value.agg #[(vS sZ), (vI 0)]) ?_)
     refine WL.store (v := (Value.agg #[(vS sZ), (vI 0)])) (cs := [(vS sZ), (vI 0)]) (c' := #[(vS sZ), (vI 0)]) M 2 rfl rfl Try.el41.sized rfl rfl rfl rfl (Nat.le_of_ble_eq_true rfl) (cel_cons rfl (cel_cons rfl cel_nil)) rfl rfl (fun w38 M => ?_)
     refine wA (vB false) (WL.nil ?_)
     refine W.ret ?_
     refine ⟨.inl rfl, (Value.tuple #[(Value.agg #[(vS sZ), (vI 0)]), (vB false)]), ?_, ?_⟩
     · exact ⟨rfl, (Res.r2 (RV.cellN Try.ag41 rfl (M.blk 2 rfl) rfl) (show RV _ _ _ (.tmp 5) (vB false) from by exact rfl))⟩
     refine ⟨?_, M.close [1] rfl (by decide) trivial⟩
     rw [peek3 hu_ (by assumption)]
     rw [chk_miss (by simpa using h37)]; rfl
    ·
     rw [h37]
     refine wM (vP sb) (wP (vP b34) (wS (vS (((afterL row (startS s)).1).key)) rfl (Step.load1 Try.sc9 rfl ((M.cell 0 rfl 0).trans rfl)) ?_))
     refine WL.callX rfl (sc_within sb s (((afterL row (startS s)).1).key) (M.enterW0 ⟨(M.wideR0 0 rfl), trivial⟩)) (CallsF.func Try.en59 rfl) ?_
     rintro _ w39 ⟨rfl, m⟩
     replace M := M.leaveW0 m
     clear m
     refine wP (vB (!(withinS s (((afterL row (startS s)).1).key)))) (wS (vB (!(withinS s (((afterL row (startS s)).1).key)))) rfl (Step.pick (t := false) rfl rfl) (WL.nil ?_))
     refine W.cond (t := !(withinS s (((afterL row (startS s)).1).key))) rfl (fun h40 => ?_) (fun h40 => ?_)
     ·
      refine wR (wP (Value.agg #[(vS sZ), (vI 0)]) ?_)
      refine WL.store (v := (Value.agg #[(vS sZ), (vI 0)])) (cs := [(vS sZ), (vI 0)]) (c' := #[(vS sZ), (vI 0)]) M 2 rfl rfl Try.el41.sized rfl rfl rfl rfl (Nat.le_of_ble_eq_true rfl) (cel_cons rfl (cel_cons rfl cel_nil)) rfl rfl (fun w41 M => ?_)
      refine wA (vB false) (WL.nil ?_)
      refine W.ret ?_
      refine ⟨.inl rfl, (Value.tuple #[(Value.agg #[(vS sZ), (vI 0)]), (vB false)]), ?_, ?_⟩
      · exact ⟨rfl, (Res.r2 (RV.cellN Try.ag41 rfl (M.blk 2 rfl) rfl) (show RV _ _ _ (.tmp 5) (vB false) from by exact rfl))⟩
      refine ⟨?_, M.close [1] rfl (by decide) trivial⟩
      rw [peek3 hu_ (by assumption)]
      rw [chk_out (by simpa using h40)]; rfl
     ·
      refine W.skip (wR (wS (Value.agg #[(vS (((afterL row (startS s)).1).key)), (vI (((afterL row (startS s)).1).val))]) rfl (Step.loadN Try.ag41 rfl (M.blk 0 rfl) (Nat.le_of_ble_eq_true rfl) rfl) ?_))
      refine WL.store (v := (Value.agg #[(vS (((afterL row (startS s)).1).key)), (vI (((afterL row (startS s)).1).val))])) (cs := [(vS (((afterL row (startS s)).1).key)), (vI (((afterL row (startS s)).1).val))]) (c' := #[(vS (((afterL row (startS s)).1).key)), (vI (((afterL row (startS s)).1).val))]) M 2 rfl rfl Try.el41.sized rfl rfl rfl rfl (Nat.le_of_ble_eq_true rfl) (cel_cons rfl (cel_cons rfl cel_nil)) rfl rfl (fun w42 M => ?_)
      refine wA (vB true) (WL.nil ?_)
      refine W.ret ?_
      refine ⟨.inl rfl, (Value.tuple #[(Value.agg #[(vS (((afterL row (startS s)).1).key)), (vI (((afterL row (startS s)).1).val))]), (vB true)]), ?_, ?_⟩
      · exact ⟨rfl, (Res.r2 (RV.cellN Try.ag41 rfl (M.blk 2 rfl) rfl) (show RV _ _ _ (.tmp 5) (vB true) from by exact rfl))⟩
      refine ⟨?_, M.close [1] rfl (by decide) trivial⟩
      rw [peek3 hu_ (by assumption)]
      rw [chk_in (by simpa using h37) (by simpa using h40)]; first | rfl | (simp_all; done)
   ·
    refine WL.callX rfl (sc_look4 sb s tb (look_all h3 h17 h30) (M.enterW0 ⟨(M.wideR0 0 rfl), trivial⟩)) (CallsF.func Try.en57 rfl) ?_
    rintro _ w43 ⟨rfl, m⟩
    replace M := M.leaveW0 m
    clear m
    refine wM (vP sb) ?_
    refine WL.callX rfl (sc_start sb s (M.enterW0 ⟨(M.wideR0 0 rfl), trivial⟩)) (CallsF.func Try.en58 rfl) ?_
    rintro _ w44 ⟨rfl, m⟩
    replace M := M.leaveW0 m
    clear m
    have fq := M.frm [tT S tb row c] [bk b1 #[(vS sZ), (vI 0)] 41] [1, 0] rfl
    refine WL.callX rfl (T_from tb S row c (startS s) (by first | assumption | omega) (M.eF fq trivial)) (CallsF.value Try.en45 rfl rfl rfl) ?_
    rintro _ w45 ⟨rfl, m⟩
    replace M := M.lF fq m
    clear m
    refine wM (Value.tuple #[(Value.agg #[(vS (((fromL row (startS s)).1).key)), (vI (((fromL row (startS s)).1).val))]), (vB ((fromL row (startS s)).2))]) (wP (Value.agg #[(vS (((fromL row (startS s)).1).key)), (vI (((fromL row (startS s)).1).val))]) (wP (vB ((fromL row (startS s)).2)) ?_))
    refine WL.alloc (c := #[(vS sZ), (vI 0)]) M rfl Try.el41.zero rfl (fun b46 w47 hb46 M => ?_)
    refine WL.store (v := (Value.agg #[(vS (((fromL row (startS s)).1).key)), (vI (((fromL row (startS s)).1).val))])) (cs := [(vS (((fromL row (startS s)).1).key)), (vI (((fromL row (startS s)).1).val))]) (c' := #[(vS (((fromL row (startS s)).1).key)), (vI (((fromL row (startS s)).1).val))]) M 0 rfl rfl Try.el41.sized rfl rfl rfl rfl (Nat.le_of_ble_eq_true rfl) (cel_cons rfl (cel_cons rfl cel_nil)) rfl rfl (fun w48 M => ?_)
    refine wA (vB ((fromL row (startS s)).2)) (WL.nil (W.seq' (wR (wM (vB ((fromL row (startS s)).2)) (wP (vB (!((fromL row (startS s)).2))) ?_)))))
    refine wM (vB (!((fromL row (startS s)).2))) ?_
    rcases Bool.eq_false_or_eq_true (!((fromL row (startS s)).2)) with h49 | h49
    ·
     rw [h49]
     refine WL.pass rfl ?_
     refine WL.pass rfl ?_
     refine WL.pass rfl ?_
     refine WL.pass rfl ?_
     refine WL.pass rfl ?_
     refine wS (vB true) rfl (Step.pick (t := true) rfl rfl) (WL.nil ?_)
     refine W.cond (t := true) rfl (fun _ => ?_) (fun h => by cases h)
     refine wR (wP (Value.agg #[(vS sZ), (vI 0)]) ?_)
     refine WL.store (v := (Value.agg #[(vS sZ), (vI 0)])) (cs := [(vS sZ), (vI 0)]) (c' := #[(vS sZ), (vI 0)]) M 2 rfl rfl Try.el41.sized rfl rfl rfl rfl (Nat.le_of_ble_eq_true rfl) (cel_cons rfl (cel_cons rfl cel_nil)) rfl rfl (fun w50 M => ?_)
     refine wA (vB false) (WL.nil ?_)
     refine W.ret ?_
     refine ⟨.inl rfl, (Value.tuple #[(Value.agg #[(vS sZ), (vI 0)]), (vB false)]), ?_, ?_⟩
     · exact ⟨rfl, (Res.r2 (RV.cellN Try.ag41 rfl (M.blk 2 rfl) rfl) (show RV _ _ _ (.tmp 5) (vB false) from by exact rfl))⟩
     refine ⟨?_, M.close [1] rfl (by decide) trivial⟩
     rw [peek4 hu_ (by first | assumption | exact look_all (by assumption) (by assumption) (by assumption))]
     rw [chk_miss (by simpa using h49)]; rfl
    ·
     rw [h49]
     refine wM (vP sb) (wP (vP b46) (wS (vS (((fromL row (startS s)).1).key)) rfl (Step.load1 Try.sc9 rfl ((M.cell 0 rfl 0).trans rfl)) ?_))
     refine WL.callX rfl (sc_within sb s (((fromL row (startS s)).1).key) (M.enterW0 ⟨(M.wideR0 0 rfl), trivial⟩)) (CallsF.func Try.en59 rfl) ?_
     rintro _ w51 ⟨rfl, m⟩
     replace M := M.leaveW0 m
     clear m
     refine wP (vB (!(withinS s (((fromL row (startS s)).1).key)))) (wS (vB (!(withinS s (((fromL row (startS s)).1).key)))) rfl (Step.pick (t := false) rfl rfl) (WL.nil ?_))
     refine W.cond (t := !(withinS s (((fromL row (startS s)).1).key))) rfl (fun h52 => ?_) (fun h52 => ?_)
     ·
      refine wR (wP (Value.agg #[(vS sZ), (vI 0)]) ?_)
      refine WL.store (v := (Value.agg #[(vS sZ), (vI 0)])) (cs := [(vS sZ), (vI 0)]) (c' := #[(vS sZ), (vI 0)]) M 2 rfl rfl Try.el41.sized rfl rfl rfl rfl (Nat.le_of_ble_eq_true rfl) (cel_cons rfl (cel_cons rfl cel_nil)) rfl rfl (fun w53 M => ?_)
      refine wA (vB false) (WL.nil ?_)
      refine W.ret ?_
      refine ⟨.inl rfl, (Value.tuple #[(Value.agg #[(vS sZ), (vI 0)]), (vB false)]), ?_, ?_⟩
      · exact ⟨rfl, (Res.r2 (RV.cellN Try.ag41 rfl (M.blk 2 rfl) rfl) (show RV _ _ _ (.tmp 5) (vB false) from by exact rfl))⟩
      refine ⟨?_, M.close [1] rfl (by decide) trivial⟩
      rw [peek4 hu_ (by first | assumption | exact look_all (by assumption) (by assumption) (by assumption))]
      rw [chk_out (by simpa using h52)]; rfl
     ·
      refine W.skip (wR (wS (Value.agg #[(vS (((fromL row (startS s)).1).key)), (vI (((fromL row (startS s)).1).val))]) rfl (Step.loadN Try.ag41 rfl (M.blk 0 rfl) (Nat.le_of_ble_eq_true rfl) rfl) ?_))
      refine WL.store (v := (Value.agg #[(vS (((fromL row (startS s)).1).key)), (vI (((fromL row (startS s)).1).val))])) (cs := [(vS (((fromL row (startS s)).1).key)), (vI (((fromL row (startS s)).1).val))]) (c' := #[(vS (((fromL row (startS s)).1).key)), (vI (((fromL row (startS s)).1).val))]) M 2 rfl rfl Try.el41.sized rfl rfl rfl rfl (Nat.le_of_ble_eq_true rfl) (cel_cons rfl (cel_cons rfl cel_nil)) rfl rfl (fun w54 M => ?_)
      refine wA (vB true) (WL.nil ?_)
      refine W.ret ?_
      refine ⟨.inl rfl, (Value.tuple #[(Value.agg #[(vS (((fromL row (startS s)).1).key)), (vI (((fromL row (startS s)).1).val))]), (vB true)]), ?_, ?_⟩
      · exact ⟨rfl, (Res.r2 (RV.cellN Try.ag41 rfl (M.blk 2 rfl) rfl) (show RV _ _ _ (.tmp 5) (vB true) from by exact rfl))⟩
      refine ⟨?_, M.close [1] rfl (by decide) trivial⟩
      rw [peek4 hu_ (by first | assumption | exact look_all (by assumption) (by assumption) (by assumption))]
      rw [chk_in (by simpa using h49) (by simpa using h52)]; first | rfl | (simp_all; done)
theorem sc_next {G X : Nat → Prop} {w : World} (sb : Nat) (s : Scn) (tb : Nat) (S : Nat → Prop) (row : List THit) (c : Nat)  (hc : c ≤ 900) (M : Mem G X w [bk sb #[(vS s.frm), (vS s.to_), (vB s.back), (vS s.at_), (vB s.told)] 88, tT S tb row c] [] w) : Rets Try.prog 24 #[(vP sb), (vP tb)] w fun r w' => r = (Value.tuple #[(Value.agg #[(vS (((peekR s row).1).key)), (vI (((peekR s row).1).val))]), (vB ((peekR s row).2))]) ∧ Mem G X w [bk sb #[(vS ((nextR s row).frm)), (vS ((nextR s row).to_)), (vB ((nextR s row).back)), (vS ((nextR s row).at_)), (vB ((nextR s row).told))] 88, tT S tb row c] [] w' := by
 refine Rets.enter 25 _ Try.func24 rfl Try.ntmps24 Try.results24 (by simp) ?_
 refine wR ?_
 refine WL.alloc (c := #[(vS sZ), (vI 0)]) M rfl Try.el41.zero rfl (fun b1 w2 hb1 M => ?_)
 refine wA (vB false) (WL.nil (wR (wM (vP sb) (wM (vP tb) ?_))))
 have fq := M.frm [tT S tb row c] [bk b1 #[(vS sZ), (vI 0)] 41, bk sb #[(vS s.frm), (vS s.to_), (vB s.back), (vS s.at_), (vB s.told)] 88] [2, 0, 1] rfl
 refine WL.callX rfl (sc_peek sb s tb S row c (by first | assumption | omega) (M.eF fq ⟨(M.cF fq 1 rfl), trivial⟩)) (CallsF.func Try.en25 rfl) ?_
 rintro _ w3 ⟨rfl, m⟩
 replace M := M.lF fq m
 clear m
 refine wM (Value.tuple #[(Value.agg #[(vS (((peekR s row).1).key)), (vI (((peekR s row).1).val))]), (vB ((peekR s row).2))]) (wP (Value.agg #[(vS (((peekR s row).1).key)), (vI (((peekR s row).1).val))]) (wP (vB ((peekR s row).2)) ?_))
 refine WL.alloc (c := #[(vS sZ), (vI 0)]) M rfl Try.el41.zero rfl (fun b4 w5 hb4 M => ?_)
 refine WL.store (v := (Value.agg #[(vS (((peekR s row).1).key)), (vI (((peekR s row).1).val))])) (cs := [(vS (((peekR s row).1).key)), (vI (((peekR s row).1).val))]) (c' := #[(vS (((peekR s row).1).key)), (vI (((peekR s row).1).val))]) M 0 rfl rfl Try.el41.sized rfl rfl rfl rfl (Nat.le_of_ble_eq_true rfl) (cel_cons rfl (cel_cons rfl cel_nil)) rfl rfl (fun w6 M => ?_)
 refine wA (vB ((peekR s row).2)) (WL.nil (W.seq' (wR (wM (vB ((peekR s row).2)) (WL.nil ?_)))))
 refine W.cond (t := (peekR s row).2) rfl (fun h7 => ?_) (fun h7 => ?_)
 ·
  refine W.region rfl (wM (vP sb) (wM (vP sb) (wP (vP b4) (wS (vS (((peekR s row).1).key)) rfl (Step.load1 Try.sc9 rfl ((M.cell 0 rfl 0).trans rfl)) (wP (vP sb) ?_)))))
  refine wP (Value.pointer (some ⟨sb, 3, none⟩)) ?_
  refine WL.store (v := (vS (((peekR s row).1).key))) (cs := [(vS (((peekR s row).1).key))]) (c' := #[(vS s.frm), (vS s.to_), (vB s.back), (vS (((peekR s row).1).key)), (vB s.told)]) M 3 rfl rfl Try.el9.sized rfl rfl rfl rfl (Nat.le_of_ble_eq_true rfl) (cel_cons rfl cel_nil) rfl rfl (fun w8 M => ?_)
  refine wP (vP sb) (wP (Value.pointer (some ⟨sb, 4, none⟩)) ?_)
  refine WL.store (v := (vB true)) (cs := [(vB true)]) (c' := #[(vS s.frm), (vS s.to_), (vB s.back), (vS (((peekR s row).1).key)), (vB true)]) M 3 rfl rfl Try.el4.sized rfl rfl rfl rfl (Nat.le_of_ble_eq_true rfl) (cel_cons rfl cel_nil) rfl rfl (fun w9 M => ?_)
  refine WL.nil (wR (wS (Value.agg #[(vS (((peekR s row).1).key)), (vI (((peekR s row).1).val))]) rfl (Step.loadN Try.ag41 rfl (M.blk 0 rfl) (Nat.le_of_ble_eq_true rfl) rfl) (wS (vB true) rfl (Step.cast (congrArg Value.bool h7) (Step.move rfl)) ?_)))
  refine WL.store (v := (Value.agg #[(vS (((peekR s row).1).key)), (vI (((peekR s row).1).val))])) (cs := [(vS (((peekR s row).1).key)), (vI (((peekR s row).1).val))]) (c' := #[(vS (((peekR s row).1).key)), (vI (((peekR s row).1).val))]) M 2 rfl rfl Try.el41.sized rfl rfl rfl rfl (Nat.le_of_ble_eq_true rfl) (cel_cons rfl (cel_cons rfl cel_nil)) rfl rfl (fun w10 M => ?_)
  refine wA (vB true) (WL.nil ?_)
  refine W.ret ?_
  refine ⟨.inl rfl, (Value.tuple #[(Value.agg #[(vS (((peekR s row).1).key)), (vI (((peekR s row).1).val))]), (vB true)]), ?_, ?_⟩
  · exact ⟨rfl, (Res.r2 (RV.cellN Try.ag41 rfl (M.blk 2 rfl) rfl) (show RV _ _ _ (.tmp 5) (vB true) from by exact rfl))⟩
  have e11 : (bk sb #[(vS ((nextR s row).frm)), (vS ((nextR s row).to_)), (vB ((nextR s row).back)), (vS ((nextR s row).at_)), (vB ((nextR s row).told))] 88 : Chunk) = (bk sb #[(vS s.frm), (vS s.to_), (vB s.back), (vS (((peekR s row).1).key)), (vB true)] 88 : Chunk) := by
   rw [next_hit (by simpa using h7)]
  replace M := M.rechunk 3 (c' := bk sb #[(vS ((nextR s row).frm)), (vS ((nextR s row).to_)), (vB ((nextR s row).back)), (vS ((nextR s row).at_)), (vB ((nextR s row).told))] 88) rfl e11.symm
  refine ⟨?_, M.close [3, 1] rfl (by decide) trivial⟩
  rw [show (peekR s row).2 = true by simpa using h7]
 ·
  refine W.skip (wR (wS (Value.agg #[(vS (((peekR s row).1).key)), (vI (((peekR s row).1).val))]) rfl (Step.loadN Try.ag41 rfl (M.blk 0 rfl) (Nat.le_of_ble_eq_true rfl) rfl) (wS (vB false) rfl (Step.cast (congrArg Value.bool h7) (Step.move rfl)) ?_)))
  refine WL.store (v := (Value.agg #[(vS (((peekR s row).1).key)), (vI (((peekR s row).1).val))])) (cs := [(vS (((peekR s row).1).key)), (vI (((peekR s row).1).val))]) (c' := #[(vS (((peekR s row).1).key)), (vI (((peekR s row).1).val))]) M 2 rfl rfl Try.el41.sized rfl rfl rfl rfl (Nat.le_of_ble_eq_true rfl) (cel_cons rfl (cel_cons rfl cel_nil)) rfl rfl (fun w12 M => ?_)
  refine wA (vB false) (WL.nil ?_)
  refine W.ret ?_
  refine ⟨.inl rfl, (Value.tuple #[(Value.agg #[(vS (((peekR s row).1).key)), (vI (((peekR s row).1).val))]), (vB false)]), ?_, ?_⟩
  · exact ⟨rfl, (Res.r2 (RV.cellN Try.ag41 rfl (M.blk 2 rfl) rfl) (show RV _ _ _ (.tmp 5) (vB false) from by exact rfl))⟩
  have e13 : (bk sb #[(vS ((nextR s row).frm)), (vS ((nextR s row).to_)), (vB ((nextR s row).back)), (vS ((nextR s row).at_)), (vB ((nextR s row).told))] 88 : Chunk) = (bk sb #[(vS s.frm), (vS s.to_), (vB s.back), (vS s.at_), (vB s.told)] 88 : Chunk) := by
   rw [next_no (by simpa using h7)]
  replace M := M.rechunk 3 (c' := bk sb #[(vS ((nextR s row).frm)), (vS ((nextR s row).to_)), (vB ((nextR s row).back)), (vS ((nextR s row).at_)), (vB ((nextR s row).told))] 88) rfl e13.symm
  refine ⟨?_, M.close [3, 1] rfl (by decide) trivial⟩
  rw [show (peekR s row).2 = false by simpa using h7]
end Go.Proofs
set_option maxRecDepth 100000
namespace Go.Proofs
open Go Tp
theorem Try.en24 : Enters Try.prog 24 := fun _ _ => by kernel_rfl
theorem sc_page {G X : Nat → Prop} {w : World} (sb : Nat) (s : Scn) (tb : Nat) (S : Nat → Prop) (row : List THit) (c : Nat) (n : Int)  (hc : c ≤ 900) (M : Mem G X w [bk sb #[(vS s.frm), (vS s.to_), (vB s.back), (vS s.at_), (vB s.told)] 88, tT S tb row c] [] w) : Rets Try.prog 15 #[(vP sb), (vP tb), (vI n)] w fun r w' => ∃ (v' : Value), r = (Value.tuple #[v', (vB (pageD s row n))]) ∧ Mem G X w [bk sb #[(vS ((pageS s row n).frm)), (vS ((pageS s row n).to_)), (vB ((pageS s row n).back)), (vS ((pageS s row n).at_)), (vB ((pageS s row n).told))] 88, tT S tb row c, oR v' (pageL s row n)] [] w' := by
 refine Rets.enter 37 _ Try.func15 rfl Try.ntmps15 Try.results15 (by simp) ?_
 refine wR (wA vZ (wA (vB false) (WL.nil ?_)))
 refine W.scope ?_
 refine W.seq' ?_
 refine W.label ?_
 refine W.seq' (W.block ?_)
 obtain ⟨hu_, hrc_⟩ := tabC_up (M.chunk 1 rfl).inv
 have hrl_ := rest_le (s := s) (row := row)
 replace M := M.ownNil 41 2
 replace M := M.rechunk 0 (c' := oR vZ ((restR s row).take 0)) rfl rfl
 replace M := M.rechunk 1 (c' := bk sb #[(vS ((stepsN 0 s row).frm)), (vS ((stepsN 0 s row).to_)), (vB ((stepsN 0 s row).back)), (vS ((stepsN 0 s row).at_)), (vB ((stepsN 0 s row).told))] 88) rfl rfl
 refine W.loop (fun kk ρ w' => ∃ (j_ : Nat) (v_ : Value), (((j_ : Int) ≤ n ∨ j_ = 0) ∧ (j_ ≤ (restR s row).length) ∧ kk = (restR s row).length - j_) ∧ ρ.has [(0, (vP sb)), (1, (vP tb)), (2, (vI n)), (6, v_), (7, (vB false))] ∧ Mem G X w [oR v_ ((restR s row).take j_), bk sb #[(vS ((stepsN j_ s row).frm)), (vS ((stepsN j_ s row).to_)), (vB ((stepsN j_ s row).back)), (vS ((stepsN j_ s row).at_)), (vB ((stepsN j_ s row).told))] 88, tT S tb row c] []  w') _ ⟨0, _, ⟨(.inr rfl), (Nat.zero_le _), rfl⟩, ⟨rfl, rfl, rfl, rfl, rfl, rfl, rfl⟩, M⟩ ?_
 rintro _ ρ2 w1 ⟨j_, v_, ⟨hi3, hi4, rfl⟩, hρ, M⟩
 obtain ⟨ρ2, rfl⟩ := hρ.know
 clear hρ
 have sl5 : IsSl v_ := SlAt.isSl (own_slAt (M.chunk 0 rfl).inv)
 have htk_ : ((restR s row).take j_).length = j_ := by rw [List.length_take]; omega
 have hacl : ((restR s row).take j_).length ≤ 400000 := by omega
 refine W.seq' (wR (wM v_ (wS (vI ↑j_) rfl (Step.cast (congrArg (Value.int .i64) (show (↑(((restR s row).take j_).length) : Int) = ↑j_ by omega)) (Step.lenSl Try.un34 rfl (own_slAt (M.chunk 0 rfl).inv))) (wM (vI n) (wP (vB (decide ((↑j_ : Int) < (n : Int)))) ?_)))))
 refine WL.nil ?_
 refine W.cond (t := decide ((↑j_ : Int) < (n : Int))) rfl (fun h6 => ?_) (fun h6 => ?_)
 ·
  have h6p := of_decide_eq_true h6
  refine W.skip (W.block (wR (wM (vP sb) (wM (vP tb) ?_))))
  have fq := M.frm [bk sb #[(vS ((stepsN j_ s row).frm)), (vS ((stepsN j_ s row).to_)), (vB ((stepsN j_ s row).back)), (vS ((stepsN j_ s row).at_)), (vB ((stepsN j_ s row).told))] 88, tT S tb row c] [oR v_ ((restR s row).take j_)] [1, 2, 0] rfl
  refine WL.callX rfl (sc_next sb (stepsN j_ s row) tb S row c (by first | assumption | omega) (M.eF fq trivial)) (CallsF.func Try.en24 rfl) ?_
  rintro _ w7 ⟨rfl, m⟩
  replace M := M.lF fq m
  clear m
  refine wM (Value.tuple #[(Value.agg #[(vS (((peekR (stepsN j_ s row) row).1).key)), (vI (((peekR (stepsN j_ s row) row).1).val))]), (vB ((peekR (stepsN j_ s row) row).2))]) (wP (Value.agg #[(vS (((peekR (stepsN j_ s row) row).1).key)), (vI (((peekR (stepsN j_ s row) row).1).val))]) (wP (vB ((peekR (stepsN j_ s row) row).2)) ?_))
  refine WL.alloc (c := #[(vS sZ), (vI 0)]) M rfl Try.el41.zero rfl (fun b8 w9 hb8 M => ?_)
  refine WL.store (v := (Value.agg #[(vS (((peekR (stepsN j_ s row) row).1).key)), (vI (((peekR (stepsN j_ s row) row).1).val))])) (cs := [(vS (((peekR (stepsN j_ s row) row).1).key)), (vI (((peekR (stepsN j_ s row) row).1).val))]) (c' := #[(vS (((peekR (stepsN j_ s row) row).1).key)), (vI (((peekR (stepsN j_ s row) row).1).val))]) M 0 rfl rfl Try.el41.sized rfl rfl rfl rfl (Nat.le_of_ble_eq_true rfl) (cel_cons rfl (cel_cons rfl cel_nil)) rfl rfl (fun w10 M => ?_)
  refine wA (vB ((peekR (stepsN j_ s row) row).2)) (WL.nil (W.seq' (wR (wM (vB ((peekR (stepsN j_ s row) row).2)) (wP (vB (!((peekR (stepsN j_ s row) row).2))) ?_)))))
  refine WL.nil ?_
  refine W.cond (t := !((peekR (stepsN j_ s row) row).2)) rfl (fun h11 => ?_) (fun h11 => ?_)
  ·
   have hno_ : (peekR (stepsN j_ s row) row).2 = false := by simpa using h11
   have hnp_ := peek_none hu_ hno_
   replace M := M.rechunk 1 (c' := bk sb #[(vS ((stepsN j_ s row).frm)), (vS ((stepsN j_ s row).to_)), (vB ((stepsN j_ s row).back)), (vS ((stepsN j_ s row).at_)), (vB ((stepsN j_ s row).told))] 88) rfl (by rw [next_no hno_])
   refine W.exit ?_
   refine thn_exit ?_
   refine inBlk_miss (by decide) ?_
   refine thn_exit ?_
   refine inBlk_hit ?_
   refine W.seq' ?_
   replace M := M.loseI 0
   refine W.region rfl (wM (vP sb) (wM (vP tb) ?_))
   have fq := M.frm [tT S tb row c] [bk sb #[(vS ((stepsN j_ s row).frm)), (vS ((stepsN j_ s row).to_)), (vB ((stepsN j_ s row).back)), (vS ((stepsN j_ s row).at_)), (vB ((stepsN j_ s row).told))] 88, oR v_ ((restR s row).take j_)] [1, 0, 2] rfl
   refine WL.callX rfl (sc_peek sb (stepsN j_ s row) tb S row c (by first | assumption | omega) (M.eF fq ⟨(M.cF fq 0 rfl), trivial⟩)) (CallsF.func Try.en25 rfl) ?_
   rintro _ w12 ⟨rfl, m⟩
   replace M := M.lF fq m
   clear m
   refine wM (Value.tuple #[(Value.agg #[(vS (((peekR (stepsN j_ s row) row).1).key)), (vI (((peekR (stepsN j_ s row) row).1).val))]), (vB ((peekR (stepsN j_ s row) row).2))]) (wP (Value.agg #[(vS (((peekR (stepsN j_ s row) row).1).key)), (vI (((peekR (stepsN j_ s row) row).1).val))]) (wS (vB false) rfl (Step.cast (congrArg Value.bool (show ((peekR (stepsN j_ s row) row).2) = false by simpa using h11)) sP) ?_))
   refine WL.alloc (c := #[(vS sZ), (vI 0)]) M rfl Try.el41.zero rfl (fun b13 w14 hb13 M => ?_)
   refine WL.store (v := (Value.agg #[(vS (((peekR (stepsN j_ s row) row).1).key)), (vI (((peekR (stepsN j_ s row) row).1).val))])) (cs := [(vS (((peekR (stepsN j_ s row) row).1).key)), (vI (((peekR (stepsN j_ s row) row).1).val))]) (c' := #[(vS (((peekR (stepsN j_ s row) row).1).key)), (vI (((peekR (stepsN j_ s row) row).1).val))]) M 0 rfl rfl Try.el41.sized rfl rfl rfl rfl (Nat.le_of_ble_eq_true rfl) (cel_cons rfl (cel_cons rfl cel_nil)) rfl rfl (fun w15 M => ?_)
   refine wA (vB false) (WL.nil (wR (wM v_ (wM (vB false) (wP (vB true) ?_)))))
   refine wA v_ (wA (vB true) (WL.nil ?_))
   refine W.ret ?_
   refine ⟨.inl rfl, (Value.tuple #[v_, (vB true)]), ?_, ?_⟩
   · exact ⟨rfl, (Res.r2 (show RV _ _ _ (.tmp 6) v_ from by exact rfl) (show RV _ _ _ (.tmp 7) (vB true) from by exact rfl))⟩
   have hN_ : pageN s row n = j_ := page_n (by assumption) (by assumption) (by omega)
   have e16 : (bk sb #[(vS ((pageS s row n).frm)), (vS ((pageS s row n).to_)), (vB ((pageS s row n).back)), (vS ((pageS s row n).at_)), (vB ((pageS s row n).told))] 88 : Chunk) = (bk sb #[(vS ((stepsN j_ s row).frm)), (vS ((stepsN j_ s row).to_)), (vB ((stepsN j_ s row).back)), (vS ((stepsN j_ s row).at_)), (vB ((stepsN j_ s row).told))] 88 : Chunk) := by
    simp only [pageS, hN_]
   replace M := M.rechunk 2 (c' := bk sb #[(vS ((pageS s row n).frm)), (vS ((pageS s row n).to_)), (vB ((pageS s row n).back)), (vS ((pageS s row n).at_)), (vB ((pageS s row n).told))] 88) rfl e16.symm
   have e17 : pageL s row n = (restR s row).take j_ := by
    unfold pageL; rw [hN_]
   replace M := M.rechunk 3 (c' := oR v_ (pageL s row n)) rfl (congrArg (fun z => own 41 2 v_ z.length (z.flatMap hitE)) e17.symm)
   refine ⟨v_, ?_, M.close [2, 1, 3] rfl (by decide) trivial⟩
   unfold pageD pageS; rw [hN_]; try rw [hno_]; try rfl
  ·
   refine W.skip (W.region rfl (wM v_ (wS (Value.agg #[(vS (((peekR (stepsN j_ s row) row).1).key)), (vI (((peekR (stepsN j_ s row) row).1).val))]) rfl (Step.loadN Try.ag41 rfl (M.blk 0 rfl) (Nat.le_of_ble_eq_true rfl) rfl) ?_)))
   refine WL.new (obj := .cells #[(vS (((peekR (stepsN j_ s row) row).1).key)), (vI (((peekR (stepsN j_ s row) row).1).val))] 41) (fun b => .slice (some ⟨b, 0, none⟩) 1 1) M rfl (fun w => Step.make (by kernel_rfl)) (fun b18 w19 hb18 M => ?_)
   refine WL.does rfl (M.appendF ((restR s row).take j_) ([((peekR (stepsN j_ s row) row).1)] : List THit) (sv := (Value.slice (some ⟨b18, 0, none⟩) 1 1)) 4 Try.un34 Try.el41 rfl (by decide) rfl rfl rfl (SlAt.of_blk (M.blk 0 rfl) rfl (by decide)) hitE_cel (by have := hacl; simp only [maxLen, List.length_nil, List.length_cons, List.length_append]; omega) (by have := hacl; (try simp only [List.length_nil, List.length_cons, List.length_append]); omega)) ?_
   rintro v20 w21 M
   have sl22 : IsSl v20 := SlAt.isSl (own_slAt (M.chunk 4 rfl).inv)
   refine wA v20 (WL.nil ?_)
   have hok_ : (peekR (stepsN j_ s row) row).2 = true := by simpa using h11
   have hrt_ := rest_lt hu_ hok_
   replace M := M.rechunk 4 (c' := oR v20 ((restR s row).take (j_ + 1))) rfl (by rw [take_hit hu_ hok_])
   replace M := M.rechunk 2 (c' := bk sb #[(vS ((stepsN (j_ + 1) s row).frm)), (vS ((stepsN (j_ + 1) s row).to_)), (vB ((stepsN (j_ + 1) s row).back)), (vS ((stepsN (j_ + 1) s row).at_)), (vB ((stepsN (j_ + 1) s row).told))] 88) rfl rfl
   replace M := M.sel (L' := [oR v20 ((restR s row).take (j_ + 1)), bk sb #[(vS ((stepsN (j_ + 1) s row).frm)), (vS ((stepsN (j_ + 1) s row).to_)), (vB ((stepsN (j_ + 1) s row).back)), (vS ((stepsN (j_ + 1) s row).at_)), (vB ((stepsN (j_ + 1) s row).told))] 88, tT S tb row c]) [4, 2, 3] rfl (by decide)
   exact ⟨_, (by omega), j_ + 1, v20, ⟨(by omega), (by omega), rfl⟩, ⟨rfl, rfl, rfl, rfl, rfl, rfl, rfl⟩, M⟩
 ·
  have h6p := of_decide_eq_false h6
  refine W.exit ?_
  refine thn_exit ?_
  refine thn_exit ?_
  refine inBlk_hit ?_
  refine wR (wM (vP sb) (wM (vP tb) ?_))
  have fq := M.frm [tT S tb row c] [oR v_ ((restR s row).take j_), bk sb #[(vS ((stepsN j_ s row).frm)), (vS ((stepsN j_ s row).to_)), (vB ((stepsN j_ s row).back)), (vS ((stepsN j_ s row).at_)), (vB ((stepsN j_ s row).told))] 88] [2, 0, 1] rfl
  refine WL.callX rfl (sc_peek sb (stepsN j_ s row) tb S row c (by first | assumption | omega) (M.eF fq ⟨(M.cF fq 1 rfl), trivial⟩)) (CallsF.func Try.en25 rfl) ?_
  rintro _ w23 ⟨rfl, m⟩
  replace M := M.lF fq m
  clear m
  refine wM (Value.tuple #[(Value.agg #[(vS (((peekR (stepsN j_ s row) row).1).key)), (vI (((peekR (stepsN j_ s row) row).1).val))]), (vB ((peekR (stepsN j_ s row) row).2))]) (wP (Value.agg #[(vS (((peekR (stepsN j_ s row) row).1).key)), (vI (((peekR (stepsN j_ s row) row).1).val))]) (wP (vB ((peekR (stepsN j_ s row) row).2)) ?_))
  refine WL.alloc (c := #[(vS sZ), (vI 0)]) M rfl Try.el41.zero rfl (fun b24 w25 hb24 M => ?_)
  refine WL.store (v := (Value.agg #[(vS (((peekR (stepsN j_ s row) row).1).key)), (vI (((peekR (stepsN j_ s row) row).1).val))])) (cs := [(vS (((peekR (stepsN j_ s row) row).1).key)), (vI (((peekR (stepsN j_ s row) row).1).val))]) (c' := #[(vS (((peekR (stepsN j_ s row) row).1).key)), (vI (((peekR (stepsN j_ s row) row).1).val))]) M 0 rfl rfl Try.el41.sized rfl rfl rfl rfl (Nat.le_of_ble_eq_true rfl) (cel_cons rfl (cel_cons rfl cel_nil)) rfl rfl (fun w26 M => ?_)
  refine wA (vB ((peekR (stepsN j_ s row) row).2)) (WL.nil (wR (wM v_ (wM (vB ((peekR (stepsN j_ s row) row).2)) (wP (vB (!((peekR (stepsN j_ s row) row).2))) ?_)))))
  refine wA v_ (wA (vB (!((peekR (stepsN j_ s row) row).2))) (WL.nil ?_))
  refine W.ret ?_
  refine ⟨.inl rfl, (Value.tuple #[v_, (vB (!((peekR (stepsN j_ s row) row).2)))]), ?_, ?_⟩
  · exact ⟨rfl, (Res.r2 (show RV _ _ _ (.tmp 6) v_ from by exact rfl) (show RV _ _ _ (.tmp 7) (vB (!((peekR (stepsN j_ s row) row).2))) from by exact rfl))⟩
  have hN_ : pageN s row n = j_ := page_n (by assumption) (by assumption) (by omega)
  have e27 : (bk sb #[(vS ((pageS s row n).frm)), (vS ((pageS s row n).to_)), (vB ((pageS s row n).back)), (vS ((pageS s row n).at_)), (vB ((pageS s row n).told))] 88 : Chunk) = (bk sb #[(vS ((stepsN j_ s row).frm)), (vS ((stepsN j_ s row).to_)), (vB ((stepsN j_ s row).back)), (vS ((stepsN j_ s row).at_)), (vB ((stepsN j_ s row).told))] 88 : Chunk) := by
   simp only [pageS, hN_]
  replace M := M.rechunk 3 (c' := bk sb #[(vS ((pageS s row n).frm)), (vS ((pageS s row n).to_)), (vB ((pageS s row n).back)), (vS ((pageS s row n).at_)), (vB ((pageS s row n).told))] 88) rfl e27.symm
  have e28 : pageL s row n = (restR s row).take j_ := by
   unfold pageL; rw [hN_]
  replace M := M.rechunk 2 (c' := oR v_ (pageL s row n)) rfl (congrArg (fun z => own 41 2 v_ z.length (z.flatMap hitE)) e28.symm)
  refine ⟨v_, ?_, M.close [3, 1, 2] rfl (by decide) trivial⟩
  unfold pageD pageS; rw [hN_]
end Go.Proofs
set_option maxRecDepth 100000
namespace Go.Proofs
open Go Tp
theorem Try.en14 : Enters Try.prog 14 := fun _ _ => by kernel_rfl
theorem sc_count {G X : Nat → Prop} {w : World} (tb : Nat) (S : Nat → Prop) (row : List THit) (c : Nat) (f : ByteArray) (t : ByteArray)  (hc : c ≤ 900) (M : Mem G X w [tT S tb row c] [] w) : Rets Try.prog 20 #[(vP tb), (vS f), (vS t)] w fun r w' => r = (vI (↑(countR row f t))) ∧ Mem G X w [tT S tb row c] [] w' := by
 refine Rets.enter 24 _ Try.func20 rfl Try.ntmps20 Try.results20 (by simp) ?_
 refine wR (wA (vI 0) (WL.nil (wR (wM (vS f) (wM (vS t) ?_)))))
 refine WL.callX rfl (sc_new f t false (M.enterW0 trivial)) (CallsF.func Try.en14 rfl) ?_
 rintro _ w2 ⟨sb1, rfl, m⟩
 replace M := M.leaveW0 m
 clear m
 refine wA (vP sb1) (WL.nil (W.block ?_))
 obtain ⟨hu_, hrc_⟩ := tabC_up (M.chunk 1 rfl).inv
 obtain ⟨s, hs_⟩ : ∃ s, s = (⟨f, t, false, sZ, false⟩ : Scn) := ⟨_, rfl⟩
 have hrl_ := rest_le (s := s) (row := row)
 replace M := M.rechunk 0 (c' := bk sb1 #[(vS ((stepsN 0 s row).frm)), (vS ((stepsN 0 s row).to_)), (vB ((stepsN 0 s row).back)), (vS ((stepsN 0 s row).at_)), (vB ((stepsN 0 s row).told))] 88) rfl (by subst hs_; rfl)
 replace M := M.sel (L' := [bk sb1 #[(vS ((stepsN 0 s row).frm)), (vS ((stepsN 0 s row).to_)), (vB ((stepsN 0 s row).back)), (vS ((stepsN 0 s row).at_)), (vB ((stepsN 0 s row).told))] 88, tT S tb row c]) [0, 1] rfl (by decide)
 refine W.loop (fun kk ρ w' => ∃ (j_ : Nat), ((j_ ≤ (restR s row).length) ∧ kk = (restR s row).length - j_) ∧ ρ.has [(0, (vP tb)), (6, (vI ↑j_)), (7, (vP sb1))] ∧ Mem G X w [bk sb1 #[(vS ((stepsN j_ s row).frm)), (vS ((stepsN j_ s row).to_)), (vB ((stepsN j_ s row).back)), (vS ((stepsN j_ s row).at_)), (vB ((stepsN j_ s row).told))] 88, tT S tb row c] []  w') _ ⟨0, ⟨(Nat.zero_le _), rfl⟩, ⟨rfl, rfl, rfl, rfl, rfl⟩, M⟩ ?_
 rintro _ ρ4 w3 ⟨j_, ⟨hi5, rfl⟩, hρ, M⟩
 obtain ⟨ρ4, rfl⟩ := hρ.know
 clear hρ
 refine W.block (W.seq' (wR (wM (vP sb1) (wM (vP tb) ?_))))
 have fq := M.frm [bk sb1 #[(vS ((stepsN j_ s row).frm)), (vS ((stepsN j_ s row).to_)), (vB ((stepsN j_ s row).back)), (vS ((stepsN j_ s row).at_)), (vB ((stepsN j_ s row).told))] 88, tT S tb row c] [] [0, 1] rfl
 refine WL.callX rfl (sc_next sb1 (stepsN j_ s row) tb S row c (by first | assumption | omega) (M.eF fq trivial)) (CallsF.func Try.en24 rfl) ?_
 rintro _ w6 ⟨rfl, m⟩
 replace M := M.lF fq m
 clear m
 refine wM (Value.tuple #[(Value.agg #[(vS (((peekR (stepsN j_ s row) row).1).key)), (vI (((peekR (stepsN j_ s row) row).1).val))]), (vB ((peekR (stepsN j_ s row) row).2))]) (wP (Value.agg #[(vS (((peekR (stepsN j_ s row) row).1).key)), (vI (((peekR (stepsN j_ s row) row).1).val))]) (wP (vB ((peekR (stepsN j_ s row) row).2)) ?_))
 refine WL.alloc (c := #[(vS sZ), (vI 0)]) M rfl Try.el41.zero rfl (fun b7 w8 hb7 M => ?_)
 refine WL.store (v := (Value.agg #[(vS (((peekR (stepsN j_ s row) row).1).key)), (vI (((peekR (stepsN j_ s row) row).1).val))])) (cs := [(vS (((peekR (stepsN j_ s row) row).1).key)), (vI (((peekR (stepsN j_ s row) row).1).val))]) (c' := #[(vS (((peekR (stepsN j_ s row) row).1).key)), (vI (((peekR (stepsN j_ s row) row).1).val))]) M 0 rfl rfl Try.el41.sized rfl rfl rfl rfl (Nat.le_of_ble_eq_true rfl) (cel_cons rfl (cel_cons rfl cel_nil)) rfl rfl (fun w9 M => ?_)
 refine wA (vB ((peekR (stepsN j_ s row) row).2)) (WL.nil (wR (wM (vB ((peekR (stepsN j_ s row) row).2)) (wP (vB (!((peekR (stepsN j_ s row) row).2))) (WL.nil ?_)))))
 refine W.cond (t := !((peekR (stepsN j_ s row) row).2)) rfl (fun h10 => ?_) (fun h10 => ?_)
 ·
  refine wR (wM (vI ↑j_) (wA (vI ↑j_) (WL.nil ?_)))
  refine W.ret ?_
  refine ⟨.inl rfl, (vI ↑j_), ?_, ?_⟩
  · exact ⟨rfl, (Res.r1 (show RV _ _ _ (.tmp 6) (vI ↑j_) from by exact rfl))⟩
  refine ⟨?_, M.close [2] rfl (by decide) trivial⟩
  have hno_ : (peekR (stepsN j_ s row) row).2 = false := by simpa using h10
  have hnp_ := peek_none hu_ hno_
  refine congrArg (Value.int .i64) ?_
  unfold countR
  rw [← hs_]
  omega
 ·
  refine W.skip (W.region rfl (wM (vI ↑j_) (wS (vI (↑j_ + 1)) rfl (Step.add rfl rfl (wrap_i64 (by omega))) (wA (vI (↑j_ + 1)) (WL.nil ?_)))))
  have hok_ : (peekR (stepsN j_ s row) row).2 = true := by simpa using h10
  have hrt_ := rest_lt hu_ hok_
  replace M := M.rechunk 1 (c' := bk sb1 #[(vS ((stepsN (j_ + 1) s row).frm)), (vS ((stepsN (j_ + 1) s row).to_)), (vB ((stepsN (j_ + 1) s row).back)), (vS ((stepsN (j_ + 1) s row).at_)), (vB ((stepsN (j_ + 1) s row).told))] 88) rfl rfl
  replace M := M.sel (L' := [bk sb1 #[(vS ((stepsN (j_ + 1) s row).frm)), (vS ((stepsN (j_ + 1) s row).to_)), (vB ((stepsN (j_ + 1) s row).back)), (vS ((stepsN (j_ + 1) s row).at_)), (vB ((stepsN (j_ + 1) s row).told))] 88, tT S tb row c]) [1, 2] rfl (by decide)
  exact ⟨_, (by omega), j_ + 1, ⟨(by omega), rfl⟩, ⟨rfl, rfl, rfl, rfl, rfl⟩, M⟩
end Go.Proofs
namespace Tp
open Go
def badS (u : TAct) : Bool := decide ((u.k.size : Int) > 20) || decide (u.v > 100)
def fewS (l : List TAct) (m : Int) : Bool := (l.take 100).all (fun a => !(badS a)) && decide ((l.length : Int) ≤ m)
def row4 : List THit := [⟨⟨#[97]⟩, 0⟩, ⟨⟨#[98]⟩, 1⟩, ⟨⟨#[99]⟩, 2⟩, ⟨⟨#[100]⟩, 3⟩]
theorem rowE_4 : rowE ([⟨#[97]⟩, ⟨#[98]⟩, ⟨#[99]⟩, ⟨#[100]⟩] : List ByteArray) 4 = row4 := by decide +kernel
section
variable {l : List TAct} {i : Nat} {x a : TAct} {m : Int} {row : List THit} {s : Scn}
theorem fewS_bad (hx : l[i]? = some x) (hi : i < 100) (h : badS x = true) : fewS l m = false := by
  unfold fewS
  rw [Bool.and_eq_false_iff]
  left
  rw [List.all_eq_false]
  refine ⟨x, List.mem_of_getElem? (i := i) ?_, by simp [h]⟩
  rw [List.getElem?_take, if_pos hi]; exact hx
theorem fewS_good (hb : ∀ j u, j < i → l[j]? = some u → badS u = false) (hi : l.length ≤ i ∨ 100 ≤ i) : fewS l m = decide ((l.length : Int) ≤ m) := by
  unfold fewS
  rw [show (l.take 100).all (fun a => !(badS a)) = true from List.all_eq_true.2 fun u hu => ?_, Bool.true_and]
  obtain ⟨j, hj⟩ := List.getElem?_of_mem hu
  rw [List.getElem?_take] at hj
  split at hj
  · next h => rw [hb j u (by have := (List.getElem?_eq_some_iff.1 hj).1; omega) hj]; rfl
  · cases hj
theorem fewS_fact (h : fewS l m = true) : (l.length : Int) ≤ m := by
  unfold fewS at h; simp at h; exact h.2
end
end Tp
set_option maxRecDepth 100000
namespace Go.Proofs
open Go Tp
theorem Try.un23 : Und Try.prog 23 (.slice 31) := by unfold Und; kernel_rfl
theorem Try.el31 : Elem Try.prog 31 (Value.agg #[(vI 0), (vS sZ), (vI 0)]) 3 32 := Elem.mk (by kernel_rfl)
theorem l13_few {G : Nat → Prop} {w : World} (v : Value) (l : List TAct) (most : Int)   (M : Mem G (fun _ => False) w [] [SlAt 3 v l.length (l.flatMap actE)] w) : Rets Try.prog 11 #[v, (vI most)] w fun r w' => r = (vB (fewS l most)) ∧ Mem G (fun _ => False) w [] [] w' := by
 refine Rets.enter 35 _ Try.func11 rfl Try.ntmps11 Try.results11 (by simp) ?_
 have hle1 := SlAt.le' (M.rep 0 rfl)
 have sl2 : IsSl v := SlAt.isSl (Mem.rep M 0 rfl)
 refine wR (wA (vB false) (WL.nil (W.seq' (wR (wA (vI 0) ?_)))))
 refine WL.nil (W.block ?_)
 refine W.loop (fun kk ρ w' => ∃ (i_ : Nat), ((i_ ≤ l.length) ∧ (i_ ≤ 100) ∧ (∀ j u, j < i_ → l[j]? = some u → badS u = false) ∧ kk = l.length - i_) ∧ ρ.has [(0, v), (1, (vI most)), (5, (vI ↑i_))] ∧ Mem G (fun _ => False) w [] [SlAt 3 v l.length (l.flatMap actE)]  w') _ ⟨0, ⟨(Nat.zero_le _), (Nat.zero_le _), (fun _ _ h => absurd h (Nat.not_lt_zero _)), rfl⟩, ⟨rfl, rfl, rfl, rfl, rfl⟩, M⟩ ?_
 rintro _ ρ4 w3 ⟨i_, ⟨hi5, hi6, hi7, rfl⟩, hρ, M⟩
 obtain ⟨ρ4, rfl⟩ := hρ.know
 clear hρ
 refine W.seq' (wR (wM (vI ↑i_) (wM v (wS (vI ↑l.length) rfl (Step.lenSl Try.un23 rfl (M.rep 0 rfl)) (wP (vB (decide ((↑i_ : Int) < (↑l.length : Int)))) ?_)))))
 refine wM (vB (decide ((↑i_ : Int) < (↑l.length : Int)))) ?_
 rcases Bool.eq_false_or_eq_true (decide ((↑i_ : Int) < (↑l.length : Int))) with h8 | h8
 ·
  have h8p := of_decide_eq_true h8
  rw [h8]
  refine wM (vI ↑i_) (wP (vB (decide ((↑i_ : Int) < (100 : Int)))) (wS (vB (decide ((↑i_ : Int) < (100 : Int)))) rfl (Step.pick (t := true) rfl rfl) (WL.nil ?_)))
  refine W.cond (t := decide ((↑i_ : Int) < (100 : Int))) rfl (fun h9 => ?_) (fun h9 => ?_)
  ·
   have h9p := of_decide_eq_true h9
   refine W.skip (W.seq' (W.block (wR (wM v (wM (vI ↑i_) ?_)))))
   obtain ⟨cap11, hb10⟩ := SlAt.base (M.rep 0 rfl) (by omega)
   obtain ⟨x12, hx12⟩ := elem_of_lt (xs := l) (i := i_) (by omega)
   refine wS (vQ v i_ 3) rfl (sX i_ Try.un23 Try.el31 rfl rfl hb10) (wP (vR v i_ 3 1) (wS (vS x12.k) rfl (Step.loadE (k := 1) Try.sc9 (flat_ec (M.rep 0 rfl) hx12 actE_len) (by decide) rfl rfl) (wS (vI ↑x12.k.size) rfl (Step.lenStr Try.un9 rfl) (wP (vB (decide ((↑x12.k.size : Int) > (20 : Int)))) (wM (vB (decide ((↑x12.k.size : Int) > (20 : Int)))) ?_)))))
   rcases Bool.eq_false_or_eq_true (decide ((↑x12.k.size : Int) > (20 : Int))) with h13 | h13
   ·
    have h13p := of_decide_eq_true h13
    rw [h13]
    refine WL.pass rfl ?_
    refine WL.pass rfl ?_
    refine WL.pass rfl ?_
    refine WL.pass rfl ?_
    refine WL.pass rfl ?_
    refine WL.pass rfl ?_
    refine wS (vB true) rfl (Step.pick (t := true) rfl rfl) (WL.nil ?_)
    refine W.cond (t := true) rfl (fun _ => ?_) (fun h => by cases h)
    refine wR (wA (vB false) (WL.nil ?_))
    refine W.ret ?_
    refine ⟨.inl rfl, (vB false), ?_, ?_⟩
    · exact ⟨rfl, (Res.r1 (show RV _ _ _ (.tmp 4) (vB false) from by exact rfl))⟩
    refine ⟨?_, M.close [] rfl (by decide) trivial⟩
    refine congrArg Value.bool ?_
    rw [fewS_bad hx12 (by omega) (by unfold badS; simp; omega)]
   ·
    have h13p := of_decide_eq_false h13
    rw [h13]
    refine wM v (wM (vI ↑i_) (wS (vQ v i_ 3) rfl (sX i_ Try.un23 Try.el31 rfl rfl hb10) (wP (vR v i_ 3 2) (wS (vI x12.v) rfl (Step.loadE (k := 2) Try.sc3 (flat_ec (M.rep 0 rfl) hx12 actE_len) (by decide) rfl rfl) (wP (vB (decide ((x12.v : Int) > (100 : Int)))) ?_)))))
    refine wS (vB (decide ((x12.v : Int) > (100 : Int)))) rfl (Step.pick (t := false) rfl rfl) (WL.nil ?_)
    refine W.cond (t := decide ((x12.v : Int) > (100 : Int))) rfl (fun h14 => ?_) (fun h14 => ?_)
    ·
     have h14p := of_decide_eq_true h14
     refine wR (wA (vB false) (WL.nil ?_))
     refine W.ret ?_
     refine ⟨.inl rfl, (vB false), ?_, ?_⟩
     · exact ⟨rfl, (Res.r1 (show RV _ _ _ (.tmp 4) (vB false) from by exact rfl))⟩
     refine ⟨?_, M.close [] rfl (by decide) trivial⟩
     refine congrArg Value.bool ?_
     rw [fewS_bad hx12 (by omega) (by unfold badS; simp; omega)]
    ·
     have h14p := of_decide_eq_false h14
     refine W.skip (W.region rfl (wM (vI ↑i_) (wS (vI (↑i_ + 1)) rfl (Step.add rfl rfl (wrap_i64 (by omega))) (wA (vI (↑i_ + 1)) (WL.nil ?_)))))
     exact ⟨_, (by omega), i_ + 1, ⟨(by omega), (by omega), (below_stepG hi7 hx12 (by unfold badS; simp; omega)), rfl⟩, ⟨rfl, rfl, rfl, rfl, rfl⟩, M⟩
  ·
   have h9p := of_decide_eq_false h9
   refine W.exit ?_
   refine thn_exit ?_
   refine thn_exit ?_
   refine inBlk_hit ?_
   refine wR (wM v (wS (vI ↑l.length) rfl (Step.lenSl Try.un23 rfl (M.rep 0 rfl)) (wM (vI most) (wP (vB (decide ((↑l.length : Int) ≤ (most : Int)))) (wA (vB (decide ((↑l.length : Int) ≤ (most : Int)))) ?_)))))
   refine WL.nil ?_
   refine W.ret ?_
   refine ⟨.inl rfl, (vB (decide ((↑l.length : Int) ≤ (most : Int)))), ?_, ?_⟩
   · exact ⟨rfl, (Res.r1 (show RV _ _ _ (.tmp 4) (vB (decide ((↑l.length : Int) ≤ (most : Int)))) from by exact rfl))⟩
   refine ⟨?_, M.close [] rfl (by decide) trivial⟩
   refine congrArg Value.bool ?_
   rw [fewS_good hi7 (by omega)]
 ·
  have h8p := of_decide_eq_false h8
  rw [h8]
  refine WL.pass rfl ?_
  refine WL.pass rfl ?_
  refine wS (vB false) rfl (Step.pick (t := false) rfl rfl) (WL.nil ?_)
  refine W.cond (t := false) rfl (fun h => by cases h) (fun _ => ?_)
  refine W.exit ?_
  refine thn_exit ?_
  refine thn_exit ?_
  refine inBlk_hit ?_
  refine wR (wM v (wS (vI ↑l.length) rfl (Step.lenSl Try.un23 rfl (M.rep 0 rfl)) (wM (vI most) (wP (vB (decide ((↑l.length : Int) ≤ (most : Int)))) (wA (vB (decide ((↑l.length : Int) ≤ (most : Int)))) ?_)))))
  refine WL.nil ?_
  refine W.ret ?_
  refine ⟨.inl rfl, (vB (decide ((↑l.length : Int) ≤ (most : Int)))), ?_, ?_⟩
  · exact ⟨rfl, (Res.r1 (show RV _ _ _ (.tmp 4) (vB (decide ((↑l.length : Int) ≤ (most : Int)))) from by exact rfl))⟩
  refine ⟨?_, M.close [] rfl (by decide) trivial⟩
  refine congrArg Value.bool ?_
  rw [fewS_good hi7 (by omega)]
theorem l13_planted {G : Nat → Prop} {w : World} (kv : Value) (ks : List ByteArray)  (hk : ks.length ≤ 40) (M : Mem G (fun _ => False) w [] [fS kv ks] w) : Rets Try.prog 13 #[kv] w fun r w' => ∃ (tb' : Nat) (S' : Nat → Prop) (rv' : Value), r = (Value.tuple #[(vP tb'), rv']) ∧ Mem G (fun _ => False) w [tT S' tb' (rowE ks ks.length) ks.length] [fR rv' (rowE ks ks.length)] w' := by
 refine Rets.enter 30 _ Try.func13 rfl Try.ntmps13 Try.results13 (by simp) ?_
 have hle1 := SlAt.le' (M.rep 0 rfl)
 have sl2 : IsSl kv := SlAt.isSl (Mem.rep M 0 rfl)
 refine wR (wA vN (wA vZ (WL.nil (wR ?_))))
 refine WL.callX rfl (T_new  (M.enterW0 trivial)) (CallsF.func Try.en30 rfl) ?_
 rintro _ w5 ⟨tb3, S4, rfl, m⟩
 replace M := M.leaveW0 m
 clear m
 refine wA (vP tb3) (WL.nil (wR (wA vZ (WL.nil (W.seq' ?_)))))
 refine wR (wA (vI 0) (WL.nil (W.block ?_)))
 replace M := M.ownNil 108 2
 replace M := M.shareOwn 0 rfl
 replace M : Mem _ _ _ [tT S4 tb3 ([] : List THit) 0] [fR vZ ([] : List THit), fS kv ks] _ := M
 replace M := M.rechunk 0 (c' := tT S4 tb3 (rowE ks 0) 0) rfl (rfl)
 have hrf6 := Sh.reList (show rowE ks 0 = ([] : List THit) by rfl) (M.shr' 0 rfl)
 replace M := M.facts (R' := [fR vZ (rowE ks 0), fS kv ks]) (Facts.all ⟨hrf6, M.shr' 1 rfl, trivial⟩)
 refine W.loop (fun kk ρ w' => ∃ (i_ : Nat) (rv_ : Value) (S_ : Nat → Prop), ((i_ ≤ ks.length) ∧ kk = ks.length - i_) ∧ ρ.has [(0, kv), (2, vN), (3, vZ), (4, (vP tb3)), (5, rv_), (6, (vI ↑i_))] ∧ Mem G (fun _ => False) w [tT S_ tb3 (rowE ks i_) i_] [fR rv_ (rowE ks i_), fS kv ks]  w') _ ⟨0, _, _, ⟨(Nat.zero_le _), rfl⟩, ⟨rfl, rfl, rfl, rfl, rfl, rfl, rfl, rfl⟩, M⟩ ?_
 rintro _ ρ8 w7 ⟨i_, rv_, S_, ⟨hi9, rfl⟩, hρ, M⟩
 obtain ⟨ρ8, rfl⟩ := hρ.know
 clear hρ
 have sl10 : IsSl rv_ := SlAt.isSl (M.rep 0 rfl)
 obtain ⟨_, hrc_⟩ := tabC_up (M.chunk 0 rfl).inv
 refine W.seq' (wR (wM (vI ↑i_) (wM kv (wS (vI ↑ks.length) rfl (Step.lenSl Try.un22 rfl (M.rep 1 rfl)) (wP (vB (decide ((↑i_ : Int) < (↑ks.length : Int)))) ?_)))))
 refine WL.nil ?_
 refine W.cond (t := decide ((↑i_ : Int) < (↑ks.length : Int))) rfl (fun h11 => ?_) (fun h11 => ?_)
 ·
  have h11p := of_decide_eq_true h11
  refine W.skip (W.seq' (W.block (wR (wM (vP tb3) (wM kv ?_)))))
  refine wM (vI ↑i_) ?_
  obtain ⟨cap13, hb12⟩ := SlAt.base (M.rep 1 rfl) (by omega)
  obtain ⟨x14, hx14⟩ := elem_of_lt (xs := ks) (i := i_) (by omega)
  refine wS (vQ kv i_ 1) rfl (sX i_ Try.un22 Try.el9 rfl rfl hb12) (wS (vS x14) rfl (Step.loadE (k := 0) Try.sc9 (flat_ec (M.rep 1 rfl) hx14 strE_len) (by decide) rfl rfl) (wM (vI ↑i_) ?_))
  have fq := M.frm [tT S_ tb3 (rowE ks i_) i_] [] [0] rfl
  refine WL.callX rfl (T_put tb3 S_ (rowE ks i_) i_ x14 ↑i_ (by first | assumption | omega) (M.eF fq trivial)) (CallsF.func Try.en18 rfl) ?_
  rintro _ w16 ⟨S15, rfl, m⟩
  replace M := M.lF fq m
  clear m
  refine WL.nil (W.region rfl (wM rv_ (wM kv (wM (vI ↑i_) (wS (vQ kv i_ 1) rfl (sX i_ Try.un22 Try.el9 rfl rfl hb12) ?_)))))
  refine wS (vS x14) rfl (Step.loadE (k := 0) Try.sc9 (flat_ec (M.rep 1 rfl) hx14 strE_len) (by decide) rfl rfl) (wM (vI ↑i_) ?_)
  refine WL.callX rfl (r_put rv_ (rowE ks i_) x14 ↑i_ (by omega) (M.enter0 ⟨(M.shr' 0 rfl), trivial⟩)) (CallsF.func Try.en39 rfl) ?_
  rintro v17 w18 ⟨_, rfl, m⟩
  replace M := M.leave0 m
  clear m
  have sl19 : IsSl v17 := SlAt.isSl (Mem.rep M 0 rfl)
  have hle20 := SlAt.le' (M.rep 0 rfl)
  refine wA v17 (WL.nil (W.region rfl (wM (vI ↑i_) (wS (vI (↑i_ + 1)) rfl (Step.add rfl rfl (wrap_i64 (by omega))) (wA (vI (↑i_ + 1)) ?_)))))
  refine WL.nil ?_
  replace M := M.rechunk 0 (c' := tT S15 tb3 (rowE ks (i_ + 1)) (i_ + 1)) rfl (by rw [rowE_succ hx14])
  have hrf21 := Sh.reList (show rowE ks (i_ + 1) = putR (rowE ks i_) (⟨x14, ↑i_⟩ : THit) by rw [rowE_succ hx14]) (M.shr' 0 rfl)
  replace M := M.facts (R' := [fR v17 (rowE ks (i_ + 1)), fR rv_ (rowE ks i_), fS kv ks]) (Facts.all ⟨hrf21, M.shr' 1 rfl, M.shr' 2 rfl, trivial⟩)
  replace M := M.facts (R' := [fR v17 (rowE ks (i_ + 1)), fS kv ks]) (Facts.all ⟨M.shr' 0 rfl, M.shr' 2 rfl, trivial⟩)
  exact ⟨_, (by omega), i_ + 1, v17, S15, ⟨(by omega), rfl⟩, ⟨rfl, rfl, rfl, rfl, rfl, rfl, rfl, rfl⟩, M⟩
 ·
  have h11p := of_decide_eq_false h11
  refine W.exit ?_
  refine thn_exit ?_
  refine thn_exit ?_
  refine inBlk_hit ?_
  refine wR (wM (vP tb3) (wM rv_ (wA (vP tb3) (wA rv_ (WL.nil ?_)))))
  refine W.ret ?_
  refine ⟨.inl rfl, (Value.tuple #[(vP tb3), rv_]), ?_, ?_⟩
  · exact ⟨rfl, (Res.r2 (show RV _ _ _ (.tmp 2) (vP tb3) from by exact rfl) (show RV _ _ _ (.tmp 3) rv_ from by exact rfl))⟩
  have e22 : rowE ks ks.length = rowE ks i_ := by
   rw [show ks.length = i_ by omega]
  have e23 : ks.length = i_ := by
   omega
  replace M := M.rechunk 0 (c' := tT S_ tb3 (rowE ks ks.length) ks.length) rfl (by rw [e22, e23])
  have e24 : rowE ks ks.length = rowE ks i_ := by
   rw [show ks.length = i_ by omega]
  have hf25 := Sh.reList e24 (M.shr' 0 rfl)
  refine ⟨tb3, S_, rv_, ?_, M.close [0] rfl (by decide) ⟨hf25, trivial⟩⟩
  rfl
end Go.Proofs
set_option maxRecDepth 100000
namespace Go.Proofs
open Go Tp
theorem Try.en15 : Enters Try.prog 15 := fun _ _ => by kernel_rfl
end Go.Proofs
set_option maxRecDepth 100000
namespace Go.Proofs
open Go Tp
theorem Try.en13 : Enters Try.prog 13 := fun _ _ => by kernel_rfl
theorem l13_works {G : Nat → Prop} {w : World}    (M : Mem G (fun _ => False) w [] [] w) : Rets Try.prog 12 #[] w fun r w' => r = (vB true) ∧ Mem G (fun _ => False) w [] [] w' := by
 refine Rets.enter 135 _ Try.func12 rfl Try.ntmps12 Try.results12 (by simp) ?_
 refine wR (wA (vB false) (WL.nil (wR ?_)))
 refine WL.new (obj := .cells #[(vS (⟨#[97]⟩ : ByteArray)), (vS (⟨#[98]⟩ : ByteArray)), (vS (⟨#[99]⟩ : ByteArray)), (vS (⟨#[100]⟩ : ByteArray))] 9) (fun b => .slice (some ⟨b, 0, none⟩) 4 4) M rfl (fun w => Step.make (by kernel_rfl)) (fun b1 w2 hb1 M => ?_)
 replace M := M.shareBlk 0 (n := 4) (size := 1) rfl rfl (by decide)
 refine WL.callX rfl (l13_planted (Value.slice (some ⟨b1, 0, none⟩) 4 4) ([(⟨#[97]⟩ : ByteArray), (⟨#[98]⟩ : ByteArray), (⟨#[99]⟩ : ByteArray), (⟨#[100]⟩ : ByteArray)] : List ByteArray) (by first | omega | decide) (M.enter0 ⟨(M.shr' 0 rfl), trivial⟩)) (CallsF.func Try.en13 rfl) ?_
 rintro _ w6 ⟨tb3, S4, rv5, rfl, m⟩
 replace M := M.leave0 m
 clear m
 have sl7 : IsSl rv5 := SlAt.isSl (Mem.rep M 0 rfl)
 have hle8 := SlAt.le' (M.rep 0 rfl)
 replace M := M.rechunk 0 (c' := tT S4 tb3 row4 4) rfl (by rw [show rowE ([(⟨#[97]⟩ : ByteArray), (⟨#[98]⟩ : ByteArray), (⟨#[99]⟩ : ByteArray), (⟨#[100]⟩ : ByteArray)] : List ByteArray) ([(⟨#[97]⟩ : ByteArray), (⟨#[98]⟩ : ByteArray), (⟨#[99]⟩ : ByteArray), (⟨#[100]⟩ : ByteArray)] : List ByteArray).length = row4 from rowE_4]; rfl)
 refine wM (Value.tuple #[(vP tb3), rv5]) (wP (vP tb3) (wP rv5 (wA (vP tb3) (wA rv5 (WL.nil ?_)))))
 refine wR ?_
 refine WL.callX rfl (sc_new (⟨#[98]⟩ : ByteArray) (⟨#[100]⟩ : ByteArray) false (M.enterW0 trivial)) (CallsF.func Try.en14 rfl) ?_
 rintro _ w10 ⟨sb9, rfl, m⟩
 replace M := M.leaveW0 m
 clear m
 refine wM (vP tb3) ?_
 have fq := M.frm [bk sb9 #[(vS ((⟨(⟨#[98]⟩ : ByteArray), (⟨#[100]⟩ : ByteArray), false, sZ, false⟩ : Scn).frm)), (vS ((⟨(⟨#[98]⟩ : ByteArray), (⟨#[100]⟩ : ByteArray), false, sZ, false⟩ : Scn).to_)), (vB ((⟨(⟨#[98]⟩ : ByteArray), (⟨#[100]⟩ : ByteArray), false, sZ, false⟩ : Scn).back)), (vS ((⟨(⟨#[98]⟩ : ByteArray), (⟨#[100]⟩ : ByteArray), false, sZ, false⟩ : Scn).at_)), (vB ((⟨(⟨#[98]⟩ : ByteArray), (⟨#[100]⟩ : ByteArray), false, sZ, false⟩ : Scn).told))] 88, tT S4 tb3 row4 4] [] [0, 1] rfl
 refine WL.callX rfl (sc_page sb9 (⟨(⟨#[98]⟩ : ByteArray), (⟨#[100]⟩ : ByteArray), false, sZ, false⟩ : Scn) tb3 S4 row4 4 5 (by first | assumption | omega) (M.eF fq trivial)) (CallsF.func Try.en15 rfl) ?_
 rintro _ w12 ⟨v11, rfl, m⟩
 replace M := M.lF fq m
 clear m
 have sl13 : IsSl v11 := SlAt.isSl (own_slAt (Mem.chunk M 2 rfl).inv)
 have hle14 := SlAt.le' (own_slAt (Mem.chunk M 2 rfl).inv)
 have hln15 : (pageL (⟨(⟨#[98]⟩ : ByteArray), (⟨#[100]⟩ : ByteArray), false, sZ, false⟩ : Scn) row4 5).length = 2 := by decide +kernel
 refine wM (Value.tuple #[v11, (vB (pageD (⟨(⟨#[98]⟩ : ByteArray), (⟨#[100]⟩ : ByteArray), false, sZ, false⟩ : Scn) row4 5))]) (wP v11 (wS (vB true) rfl (Step.cast (congrArg Value.bool (show (pageD (⟨(⟨#[98]⟩ : ByteArray), (⟨#[100]⟩ : ByteArray), false, sZ, false⟩ : Scn) row4 5) = true by decide +kernel)) sP) (wA v11 (wA (vB true) (WL.nil ?_)))))
 refine W.seq' ?_
 replace M := M.loseI 0
 refine W.region rfl ?_
 refine WL.callX rfl (sc_new (⟨#[98]⟩ : ByteArray) sZ true (M.enterW0 trivial)) (CallsF.func Try.en14 rfl) ?_
 rintro _ w17 ⟨sb16, rfl, m⟩
 replace M := M.leaveW0 m
 clear m
 refine wA (vP sb16) (WL.nil (wR (wM (vP sb16) (wM (vP tb3) ?_))))
 have fq := M.frm [bk sb16 #[(vS ((⟨(⟨#[98]⟩ : ByteArray), sZ, true, sZ, false⟩ : Scn).frm)), (vS ((⟨(⟨#[98]⟩ : ByteArray), sZ, true, sZ, false⟩ : Scn).to_)), (vB ((⟨(⟨#[98]⟩ : ByteArray), sZ, true, sZ, false⟩ : Scn).back)), (vS ((⟨(⟨#[98]⟩ : ByteArray), sZ, true, sZ, false⟩ : Scn).at_)), (vB ((⟨(⟨#[98]⟩ : ByteArray), sZ, true, sZ, false⟩ : Scn).told))] 88, tT S4 tb3 row4 4] [oR v11 (pageL (⟨(⟨#[98]⟩ : ByteArray), (⟨#[100]⟩ : ByteArray), false, sZ, false⟩ : Scn) row4 5)] [0, 1, 2] rfl
 refine WL.callX rfl (sc_page sb16 (⟨(⟨#[98]⟩ : ByteArray), sZ, true, sZ, false⟩ : Scn) tb3 S4 row4 4 2 (by first | assumption | omega) (M.eF fq trivial)) (CallsF.func Try.en15 rfl) ?_
 rintro _ w19 ⟨v18, rfl, m⟩
 replace M := M.lF fq m
 clear m
 have sl20 : IsSl v18 := SlAt.isSl (own_slAt (Mem.chunk M 2 rfl).inv)
 have hle21 := SlAt.le' (own_slAt (Mem.chunk M 2 rfl).inv)
 have hln22 : (pageL (⟨(⟨#[98]⟩ : ByteArray), sZ, true, sZ, false⟩ : Scn) row4 2).length = 2 := by decide +kernel
 refine wM (Value.tuple #[v18, (vB (pageD (⟨(⟨#[98]⟩ : ByteArray), sZ, true, sZ, false⟩ : Scn) row4 2))]) (wP v18 (wS (vB false) rfl (Step.cast (congrArg Value.bool (show (pageD (⟨(⟨#[98]⟩ : ByteArray), sZ, true, sZ, false⟩ : Scn) row4 2) = false by decide +kernel)) sP) (wA v18 (wA (vB false) (WL.nil ?_)))))
 refine wR (wM (vP sb16) (wM (vP tb3) ?_))
 have fq := M.frm [bk sb16 #[(vS ((pageS (⟨(⟨#[98]⟩ : ByteArray), sZ, true, sZ, false⟩ : Scn) row4 2).frm)), (vS ((pageS (⟨(⟨#[98]⟩ : ByteArray), sZ, true, sZ, false⟩ : Scn) row4 2).to_)), (vB ((pageS (⟨(⟨#[98]⟩ : ByteArray), sZ, true, sZ, false⟩ : Scn) row4 2).back)), (vS ((pageS (⟨(⟨#[98]⟩ : ByteArray), sZ, true, sZ, false⟩ : Scn) row4 2).at_)), (vB ((pageS (⟨(⟨#[98]⟩ : ByteArray), sZ, true, sZ, false⟩ : Scn) row4 2).told))] 88, tT S4 tb3 row4 4] [oR v18 (pageL (⟨(⟨#[98]⟩ : ByteArray), sZ, true, sZ, false⟩ : Scn) row4 2), oR v11 (pageL (⟨(⟨#[98]⟩ : ByteArray), (⟨#[100]⟩ : ByteArray), false, sZ, false⟩ : Scn) row4 5)] [0, 1, 2, 3] rfl
 refine WL.callX rfl (sc_next sb16 (pageS (⟨(⟨#[98]⟩ : ByteArray), sZ, true, sZ, false⟩ : Scn) row4 2) tb3 S4 row4 4 (by first | assumption | omega) (M.eF fq trivial)) (CallsF.func Try.en24 rfl) ?_
 rintro _ w23 ⟨rfl, m⟩
 replace M := M.lF fq m
 clear m
 refine wM (Value.tuple #[(Value.agg #[(vS (((peekR (pageS (⟨(⟨#[98]⟩ : ByteArray), sZ, true, sZ, false⟩ : Scn) row4 2) row4).1).key)), (vI (((peekR (pageS (⟨(⟨#[98]⟩ : ByteArray), sZ, true, sZ, false⟩ : Scn) row4 2) row4).1).val))]), (vB ((peekR (pageS (⟨(⟨#[98]⟩ : ByteArray), sZ, true, sZ, false⟩ : Scn) row4 2) row4).2))]) (wP (Value.agg #[(vS (((peekR (pageS (⟨(⟨#[98]⟩ : ByteArray), sZ, true, sZ, false⟩ : Scn) row4 2) row4).1).key)), (vI (((peekR (pageS (⟨(⟨#[98]⟩ : ByteArray), sZ, true, sZ, false⟩ : Scn) row4 2) row4).1).val))]) (wS (vB true) rfl (Step.cast (congrArg Value.bool (show ((peekR (pageS (⟨(⟨#[98]⟩ : ByteArray), sZ, true, sZ, false⟩ : Scn) row4 2) row4).2) = true by decide +kernel)) sP) ?_))
 refine WL.alloc (c := #[(vS sZ), (vI 0)]) M rfl Try.el41.zero rfl (fun b24 w25 hb24 M => ?_)
 refine WL.store (v := (Value.agg #[(vS (((peekR (pageS (⟨(⟨#[98]⟩ : ByteArray), sZ, true, sZ, false⟩ : Scn) row4 2) row4).1).key)), (vI (((peekR (pageS (⟨(⟨#[98]⟩ : ByteArray), sZ, true, sZ, false⟩ : Scn) row4 2) row4).1).val))])) (cs := [(vS (((peekR (pageS (⟨(⟨#[98]⟩ : ByteArray), sZ, true, sZ, false⟩ : Scn) row4 2) row4).1).key)), (vI (((peekR (pageS (⟨(⟨#[98]⟩ : ByteArray), sZ, true, sZ, false⟩ : Scn) row4 2) row4).1).val))]) (c' := #[(vS (((peekR (pageS (⟨(⟨#[98]⟩ : ByteArray), sZ, true, sZ, false⟩ : Scn) row4 2) row4).1).key)), (vI (((peekR (pageS (⟨(⟨#[98]⟩ : ByteArray), sZ, true, sZ, false⟩ : Scn) row4 2) row4).1).val))]) M 0 rfl rfl Try.el41.sized rfl rfl rfl rfl (Nat.le_of_ble_eq_true rfl) (cel_cons rfl (cel_cons rfl cel_nil)) rfl rfl (fun w26 M => ?_)
 refine wA (vB true) (WL.nil (wR (wM (vP sb16) (wM (vP tb3) ?_))))
 have fq := M.frm [bk sb16 #[(vS ((nextR (pageS (⟨(⟨#[98]⟩ : ByteArray), sZ, true, sZ, false⟩ : Scn) row4 2) row4).frm)), (vS ((nextR (pageS (⟨(⟨#[98]⟩ : ByteArray), sZ, true, sZ, false⟩ : Scn) row4 2) row4).to_)), (vB ((nextR (pageS (⟨(⟨#[98]⟩ : ByteArray), sZ, true, sZ, false⟩ : Scn) row4 2) row4).back)), (vS ((nextR (pageS (⟨(⟨#[98]⟩ : ByteArray), sZ, true, sZ, false⟩ : Scn) row4 2) row4).at_)), (vB ((nextR (pageS (⟨(⟨#[98]⟩ : ByteArray), sZ, true, sZ, false⟩ : Scn) row4 2) row4).told))] 88, tT S4 tb3 row4 4] [bk b24 #[(vS (((peekR (pageS (⟨(⟨#[98]⟩ : ByteArray), sZ, true, sZ, false⟩ : Scn) row4 2) row4).1).key)), (vI (((peekR (pageS (⟨(⟨#[98]⟩ : ByteArray), sZ, true, sZ, false⟩ : Scn) row4 2) row4).1).val))] 41, oR v18 (pageL (⟨(⟨#[98]⟩ : ByteArray), sZ, true, sZ, false⟩ : Scn) row4 2), oR v11 (pageL (⟨(⟨#[98]⟩ : ByteArray), (⟨#[100]⟩ : ByteArray), false, sZ, false⟩ : Scn) row4 5)] [1, 2, 0, 3, 4] rfl
 refine WL.callX rfl (sc_next sb16 (nextR (pageS (⟨(⟨#[98]⟩ : ByteArray), sZ, true, sZ, false⟩ : Scn) row4 2) row4) tb3 S4 row4 4 (by first | assumption | omega) (M.eF fq trivial)) (CallsF.func Try.en24 rfl) ?_
 rintro _ w27 ⟨rfl, m⟩
 replace M := M.lF fq m
 clear m
 refine wM (Value.tuple #[(Value.agg #[(vS (((peekR (nextR (pageS (⟨(⟨#[98]⟩ : ByteArray), sZ, true, sZ, false⟩ : Scn) row4 2) row4) row4).1).key)), (vI (((peekR (nextR (pageS (⟨(⟨#[98]⟩ : ByteArray), sZ, true, sZ, false⟩ : Scn) row4 2) row4) row4).1).val))]), (vB ((peekR (nextR (pageS (⟨(⟨#[98]⟩ : ByteArray), sZ, true, sZ, false⟩ : Scn) row4 2) row4) row4).2))]) (wP (Value.agg #[(vS (((peekR (nextR (pageS (⟨(⟨#[98]⟩ : ByteArray), sZ, true, sZ, false⟩ : Scn) row4 2) row4) row4).1).key)), (vI (((peekR (nextR (pageS (⟨(⟨#[98]⟩ : ByteArray), sZ, true, sZ, false⟩ : Scn) row4 2) row4) row4).1).val))]) (wS (vB false) rfl (Step.cast (congrArg Value.bool (show ((peekR (nextR (pageS (⟨(⟨#[98]⟩ : ByteArray), sZ, true, sZ, false⟩ : Scn) row4 2) row4) row4).2) = false by decide +kernel)) sP) ?_))
 refine WL.alloc (c := #[(vS sZ), (vI 0)]) M rfl Try.el41.zero rfl (fun b28 w29 hb28 M => ?_)
 refine WL.store (v := (Value.agg #[(vS (((peekR (nextR (pageS (⟨(⟨#[98]⟩ : ByteArray), sZ, true, sZ, false⟩ : Scn) row4 2) row4) row4).1).key)), (vI (((peekR (nextR (pageS (⟨(⟨#[98]⟩ : ByteArray), sZ, true, sZ, false⟩ : Scn) row4 2) row4) row4).1).val))])) (cs := [(vS (((peekR (nextR (pageS (⟨(⟨#[98]⟩ : ByteArray), sZ, true, sZ, false⟩ : Scn) row4 2) row4) row4).1).key)), (vI (((peekR (nextR (pageS (⟨(⟨#[98]⟩ : ByteArray), sZ, true, sZ, false⟩ : Scn) row4 2) row4) row4).1).val))]) (c' := #[(vS (((peekR (nextR (pageS (⟨(⟨#[98]⟩ : ByteArray), sZ, true, sZ, false⟩ : Scn) row4 2) row4) row4).1).key)), (vI (((peekR (nextR (pageS (⟨(⟨#[98]⟩ : ByteArray), sZ, true, sZ, false⟩ : Scn) row4 2) row4) row4).1).val))]) M 0 rfl rfl Try.el41.sized rfl rfl rfl rfl (Nat.le_of_ble_eq_true rfl) (cel_cons rfl (cel_cons rfl cel_nil)) rfl rfl (fun w30 M => ?_)
 refine wA (vB false) (WL.nil (W.seq' ?_))
 replace M := M.loseI 1
 replace M := M.loseI 0
 refine W.region rfl ?_
 refine WL.callX rfl (sc_new (⟨#[97]⟩ : ByteArray) sZ false (M.enterW0 trivial)) (CallsF.func Try.en14 rfl) ?_
 rintro _ w32 ⟨sb31, rfl, m⟩
 replace M := M.leaveW0 m
 clear m
 refine wA (vP sb31) (WL.nil (wR (wM (vP sb31) (wM (vP tb3) ?_))))
 have fq := M.frm [bk sb31 #[(vS ((⟨(⟨#[97]⟩ : ByteArray), sZ, false, sZ, false⟩ : Scn).frm)), (vS ((⟨(⟨#[97]⟩ : ByteArray), sZ, false, sZ, false⟩ : Scn).to_)), (vB ((⟨(⟨#[97]⟩ : ByteArray), sZ, false, sZ, false⟩ : Scn).back)), (vS ((⟨(⟨#[97]⟩ : ByteArray), sZ, false, sZ, false⟩ : Scn).at_)), (vB ((⟨(⟨#[97]⟩ : ByteArray), sZ, false, sZ, false⟩ : Scn).told))] 88, tT S4 tb3 row4 4] [bk b24 #[(vS (((peekR (pageS (⟨(⟨#[98]⟩ : ByteArray), sZ, true, sZ, false⟩ : Scn) row4 2) row4).1).key)), (vI (((peekR (pageS (⟨(⟨#[98]⟩ : ByteArray), sZ, true, sZ, false⟩ : Scn) row4 2) row4).1).val))] 41, oR v18 (pageL (⟨(⟨#[98]⟩ : ByteArray), sZ, true, sZ, false⟩ : Scn) row4 2), oR v11 (pageL (⟨(⟨#[98]⟩ : ByteArray), (⟨#[100]⟩ : ByteArray), false, sZ, false⟩ : Scn) row4 5)] [0, 1, 2, 3, 4] rfl
 refine WL.callX rfl (sc_next sb31 (⟨(⟨#[97]⟩ : ByteArray), sZ, false, sZ, false⟩ : Scn) tb3 S4 row4 4 (by first | assumption | omega) (M.eF fq trivial)) (CallsF.func Try.en24 rfl) ?_
 rintro _ w33 ⟨rfl, m⟩
 replace M := M.lF fq m
 clear m
 refine wM (Value.tuple #[(Value.agg #[(vS (((peekR (⟨(⟨#[97]⟩ : ByteArray), sZ, false, sZ, false⟩ : Scn) row4).1).key)), (vI (((peekR (⟨(⟨#[97]⟩ : ByteArray), sZ, false, sZ, false⟩ : Scn) row4).1).val))]), (vB ((peekR (⟨(⟨#[97]⟩ : ByteArray), sZ, false, sZ, false⟩ : Scn) row4).2))]) (wP (Value.agg #[(vS (((peekR (⟨(⟨#[97]⟩ : ByteArray), sZ, false, sZ, false⟩ : Scn) row4).1).key)), (vI (((peekR (⟨(⟨#[97]⟩ : ByteArray), sZ, false, sZ, false⟩ : Scn) row4).1).val))]) (wS (vB true) rfl (Step.cast (congrArg Value.bool (show ((peekR (⟨(⟨#[97]⟩ : ByteArray), sZ, false, sZ, false⟩ : Scn) row4).2) = true by decide +kernel)) sP) ?_))
 refine WL.alloc (c := #[(vS sZ), (vI 0)]) M rfl Try.el41.zero rfl (fun b34 w35 hb34 M => ?_)
 refine WL.store (v := (Value.agg #[(vS (((peekR (⟨(⟨#[97]⟩ : ByteArray), sZ, false, sZ, false⟩ : Scn) row4).1).key)), (vI (((peekR (⟨(⟨#[97]⟩ : ByteArray), sZ, false, sZ, false⟩ : Scn) row4).1).val))])) (cs := [(vS (((peekR (⟨(⟨#[97]⟩ : ByteArray), sZ, false, sZ, false⟩ : Scn) row4).1).key)), (vI (((peekR (⟨(⟨#[97]⟩ : ByteArray), sZ, false, sZ, false⟩ : Scn) row4).1).val))]) (c' := #[(vS (((peekR (⟨(⟨#[97]⟩ : ByteArray), sZ, false, sZ, false⟩ : Scn) row4).1).key)), (vI (((peekR (⟨(⟨#[97]⟩ : ByteArray), sZ, false, sZ, false⟩ : Scn) row4).1).val))]) M 0 rfl rfl Try.el41.sized rfl rfl rfl rfl (Nat.le_of_ble_eq_true rfl) (cel_cons rfl (cel_cons rfl cel_nil)) rfl rfl (fun w36 M => ?_)
 refine wA (vB true) (WL.nil (wR (wM (vP tb3) ?_)))
 have fq := M.frm [tT S4 tb3 row4 4] [bk b34 #[(vS (((peekR (⟨(⟨#[97]⟩ : ByteArray), sZ, false, sZ, false⟩ : Scn) row4).1).key)), (vI (((peekR (⟨(⟨#[97]⟩ : ByteArray), sZ, false, sZ, false⟩ : Scn) row4).1).val))] 41, bk sb31 #[(vS ((nextR (⟨(⟨#[97]⟩ : ByteArray), sZ, false, sZ, false⟩ : Scn) row4).frm)), (vS ((nextR (⟨(⟨#[97]⟩ : ByteArray), sZ, false, sZ, false⟩ : Scn) row4).to_)), (vB ((nextR (⟨(⟨#[97]⟩ : ByteArray), sZ, false, sZ, false⟩ : Scn) row4).back)), (vS ((nextR (⟨(⟨#[97]⟩ : ByteArray), sZ, false, sZ, false⟩ : Scn) row4).at_)), (vB ((nextR (⟨(⟨#[97]⟩ : ByteArray), sZ, false, sZ, false⟩ : Scn) row4).told))] 88, bk b24 #[(vS (((peekR (pageS (⟨(⟨#[98]⟩ : ByteArray), sZ, true, sZ, false⟩ : Scn) row4 2) row4).1).key)), (vI (((peekR (pageS (⟨(⟨#[98]⟩ : ByteArray), sZ, true, sZ, false⟩ : Scn) row4 2) row4).1).val))] 41, oR v18 (pageL (⟨(⟨#[98]⟩ : ByteArray), sZ, true, sZ, false⟩ : Scn) row4 2), oR v11 (pageL (⟨(⟨#[98]⟩ : ByteArray), (⟨#[100]⟩ : ByteArray), false, sZ, false⟩ : Scn) row4 5)] [2, 0, 1, 3, 4, 5] rfl
 refine WL.callX rfl (T_delete tb3 S4 row4 4 (⟨#[98]⟩ : ByteArray) (by first | assumption | omega) (M.eF fq trivial)) (CallsF.func Try.en19 rfl) ?_
 rintro _ w38 ⟨S37, rfl, m⟩
 replace M := M.lF fq m
 clear m
 refine WL.nil (wR (wM (vP tb3) ?_))
 have fq := M.frm [tT S37 tb3 (delL row4 (⟨#[98]⟩ : ByteArray)) 4] [bk b34 #[(vS (((peekR (⟨(⟨#[97]⟩ : ByteArray), sZ, false, sZ, false⟩ : Scn) row4).1).key)), (vI (((peekR (⟨(⟨#[97]⟩ : ByteArray), sZ, false, sZ, false⟩ : Scn) row4).1).val))] 41, bk sb31 #[(vS ((nextR (⟨(⟨#[97]⟩ : ByteArray), sZ, false, sZ, false⟩ : Scn) row4).frm)), (vS ((nextR (⟨(⟨#[97]⟩ : ByteArray), sZ, false, sZ, false⟩ : Scn) row4).to_)), (vB ((nextR (⟨(⟨#[97]⟩ : ByteArray), sZ, false, sZ, false⟩ : Scn) row4).back)), (vS ((nextR (⟨(⟨#[97]⟩ : ByteArray), sZ, false, sZ, false⟩ : Scn) row4).at_)), (vB ((nextR (⟨(⟨#[97]⟩ : ByteArray), sZ, false, sZ, false⟩ : Scn) row4).told))] 88, bk b24 #[(vS (((peekR (pageS (⟨(⟨#[98]⟩ : ByteArray), sZ, true, sZ, false⟩ : Scn) row4 2) row4).1).key)), (vI (((peekR (pageS (⟨(⟨#[98]⟩ : ByteArray), sZ, true, sZ, false⟩ : Scn) row4 2) row4).1).val))] 41, oR v18 (pageL (⟨(⟨#[98]⟩ : ByteArray), sZ, true, sZ, false⟩ : Scn) row4 2), oR v11 (pageL (⟨(⟨#[98]⟩ : ByteArray), (⟨#[100]⟩ : ByteArray), false, sZ, false⟩ : Scn) row4 5)] [0, 1, 2, 3, 4, 5] rfl
 refine WL.callX rfl (T_delete tb3 S37 (delL row4 (⟨#[98]⟩ : ByteArray)) 4 (⟨#[99]⟩ : ByteArray) (by first | assumption | omega) (M.eF fq trivial)) (CallsF.func Try.en19 rfl) ?_
 rintro _ w40 ⟨S39, rfl, m⟩
 replace M := M.lF fq m
 clear m
 refine WL.nil (wR (wM (vP sb31) (wM (vP tb3) ?_)))
 have fq := M.frm [bk sb31 #[(vS ((nextR (⟨(⟨#[97]⟩ : ByteArray), sZ, false, sZ, false⟩ : Scn) row4).frm)), (vS ((nextR (⟨(⟨#[97]⟩ : ByteArray), sZ, false, sZ, false⟩ : Scn) row4).to_)), (vB ((nextR (⟨(⟨#[97]⟩ : ByteArray), sZ, false, sZ, false⟩ : Scn) row4).back)), (vS ((nextR (⟨(⟨#[97]⟩ : ByteArray), sZ, false, sZ, false⟩ : Scn) row4).at_)), (vB ((nextR (⟨(⟨#[97]⟩ : ByteArray), sZ, false, sZ, false⟩ : Scn) row4).told))] 88, tT S39 tb3 (delL (delL row4 (⟨#[98]⟩ : ByteArray)) (⟨#[99]⟩ : ByteArray)) 4] [bk b34 #[(vS (((peekR (⟨(⟨#[97]⟩ : ByteArray), sZ, false, sZ, false⟩ : Scn) row4).1).key)), (vI (((peekR (⟨(⟨#[97]⟩ : ByteArray), sZ, false, sZ, false⟩ : Scn) row4).1).val))] 41, bk b24 #[(vS (((peekR (pageS (⟨(⟨#[98]⟩ : ByteArray), sZ, true, sZ, false⟩ : Scn) row4 2) row4).1).key)), (vI (((peekR (pageS (⟨(⟨#[98]⟩ : ByteArray), sZ, true, sZ, false⟩ : Scn) row4 2) row4).1).val))] 41, oR v18 (pageL (⟨(⟨#[98]⟩ : ByteArray), sZ, true, sZ, false⟩ : Scn) row4 2), oR v11 (pageL (⟨(⟨#[98]⟩ : ByteArray), (⟨#[100]⟩ : ByteArray), false, sZ, false⟩ : Scn) row4 5)] [2, 0, 1, 3, 4, 5] rfl
 refine WL.callX rfl (sc_next sb31 (nextR (⟨(⟨#[97]⟩ : ByteArray), sZ, false, sZ, false⟩ : Scn) row4) tb3 S39 (delL (delL row4 (⟨#[98]⟩ : ByteArray)) (⟨#[99]⟩ : ByteArray)) 4 (by first | assumption | omega) (M.eF fq trivial)) (CallsF.func Try.en24 rfl) ?_
 rintro _ w41 ⟨rfl, m⟩
 replace M := M.lF fq m
 clear m
 refine wM (Value.tuple #[(Value.agg #[(vS (((peekR (nextR (⟨(⟨#[97]⟩ : ByteArray), sZ, false, sZ, false⟩ : Scn) row4) (delL (delL row4 (⟨#[98]⟩ : ByteArray)) (⟨#[99]⟩ : ByteArray))).1).key)), (vI (((peekR (nextR (⟨(⟨#[97]⟩ : ByteArray), sZ, false, sZ, false⟩ : Scn) row4) (delL (delL row4 (⟨#[98]⟩ : ByteArray)) (⟨#[99]⟩ : ByteArray))).1).val))]), (vB ((peekR (nextR (⟨(⟨#[97]⟩ : ByteArray), sZ, false, sZ, false⟩ : Scn) row4) (delL (delL row4 (⟨#[98]⟩ : ByteArray)) (⟨#[99]⟩ : ByteArray))).2))]) (wP (Value.agg #[(vS (((peekR (nextR (⟨(⟨#[97]⟩ : ByteArray), sZ, false, sZ, false⟩ : Scn) row4) (delL (delL row4 (⟨#[98]⟩ : ByteArray)) (⟨#[99]⟩ : ByteArray))).1).key)), (vI (((peekR (nextR (⟨(⟨#[97]⟩ : ByteArray), sZ, false, sZ, false⟩ : Scn) row4) (delL (delL row4 (⟨#[98]⟩ : ByteArray)) (⟨#[99]⟩ : ByteArray))).1).val))]) (wS (vB true) rfl (Step.cast (congrArg Value.bool (show ((peekR (nextR (⟨(⟨#[97]⟩ : ByteArray), sZ, false, sZ, false⟩ : Scn) row4) (delL (delL row4 (⟨#[98]⟩ : ByteArray)) (⟨#[99]⟩ : ByteArray))).2) = true by decide +kernel)) sP) ?_))
 refine WL.alloc (c := #[(vS sZ), (vI 0)]) M rfl Try.el41.zero rfl (fun b42 w43 hb42 M => ?_)
 refine WL.store (v := (Value.agg #[(vS (((peekR (nextR (⟨(⟨#[97]⟩ : ByteArray), sZ, false, sZ, false⟩ : Scn) row4) (delL (delL row4 (⟨#[98]⟩ : ByteArray)) (⟨#[99]⟩ : ByteArray))).1).key)), (vI (((peekR (nextR (⟨(⟨#[97]⟩ : ByteArray), sZ, false, sZ, false⟩ : Scn) row4) (delL (delL row4 (⟨#[98]⟩ : ByteArray)) (⟨#[99]⟩ : ByteArray))).1).val))])) (cs := [(vS (((peekR (nextR (⟨(⟨#[97]⟩ : ByteArray), sZ, false, sZ, false⟩ : Scn) row4) (delL (delL row4 (⟨#[98]⟩ : ByteArray)) (⟨#[99]⟩ : ByteArray))).1).key)), (vI (((peekR (nextR (⟨(⟨#[97]⟩ : ByteArray), sZ, false, sZ, false⟩ : Scn) row4) (delL (delL row4 (⟨#[98]⟩ : ByteArray)) (⟨#[99]⟩ : ByteArray))).1).val))]) (c' := #[(vS (((peekR (nextR (⟨(⟨#[97]⟩ : ByteArray), sZ, false, sZ, false⟩ : Scn) row4) (delL (delL row4 (⟨#[98]⟩ : ByteArray)) (⟨#[99]⟩ : ByteArray))).1).key)), (vI (((peekR (nextR (⟨(⟨#[97]⟩ : ByteArray), sZ, false, sZ, false⟩ : Scn) row4) (delL (delL row4 (⟨#[98]⟩ : ByteArray)) (⟨#[99]⟩ : ByteArray))).1).val))]) M 0 rfl rfl Try.el41.sized rfl rfl rfl rfl (Nat.le_of_ble_eq_true rfl) (cel_cons rfl (cel_cons rfl cel_nil)) rfl rfl (fun w44 M => ?_)
 refine wA (vB true) (WL.nil (wR (wM v11 (wS (vI (↑((pageL (⟨(⟨#[98]⟩ : ByteArray), (⟨#[100]⟩ : ByteArray), false, sZ, false⟩ : Scn) row4 5).length))) rfl (Step.lenSl Try.un34 rfl (own_slAt (M.chunk 6 rfl).inv)) (wS (vB true) rfl (Step.cast (congrArg Value.bool (show ((↑((pageL (⟨(⟨#[98]⟩ : ByteArray), (⟨#[100]⟩ : ByteArray), false, sZ, false⟩ : Scn) row4 5).length) : Int) == (2 : Int)) = true by decide +kernel)) sP) ?_)))))
 refine wM (vB true) (wM v11 ?_)
 obtain ⟨cap46, hb45⟩ := SlAt.base (own_slAt (M.chunk 6 rfl).inv) (by omega)
 obtain ⟨x47, hx47⟩ := elem_of_lt (xs := pageL (⟨(⟨#[98]⟩ : ByteArray), (⟨#[100]⟩ : ByteArray), false, sZ, false⟩ : Scn) row4 5) (i := 0) (by omega)
 have hlit_x47 : x47 = (⟨⟨#[98]⟩, 1⟩ : THit) := Option.some.inj (hx47.symm.trans (by decide +kernel))
 refine wS (vQ v11 0 2) rfl (sX 0 Try.un34 Try.el41 rfl rfl hb45 rfl) (wP (vQ v11 0 2) (wS (vS x47.key) rfl (Step.loadE (k := 0) Try.sc9 (flat_ec (own_slAt (M.chunk 6 rfl).inv) hx47 hitE_len) (by decide) rfl rfl) (wS (vB true) rfl (Step.cast (congrArg Value.bool (show (x47.key.toList == (⟨#[98]⟩ : ByteArray).toList) = true by rw [hlit_x47]; decide +kernel)) sP) (wS (vB true) rfl (Step.pick (t := true) rfl rfl) (wM (vB true) ?_)))))
 refine wM v11 ?_
 obtain ⟨x48, hx48⟩ := elem_of_lt (xs := pageL (⟨(⟨#[98]⟩ : ByteArray), (⟨#[100]⟩ : ByteArray), false, sZ, false⟩ : Scn) row4 5) (i := 1) (by omega)
 have hlit_x48 : x48 = (⟨⟨#[99]⟩, 2⟩ : THit) := Option.some.inj (hx48.symm.trans (by decide +kernel))
 refine wS (vQ v11 1 2) rfl (sX 1 Try.un34 Try.el41 rfl rfl hb45 rfl) (wP (vQ v11 1 2) (wS (vS x48.key) rfl (Step.loadE (k := 0) Try.sc9 (flat_ec (own_slAt (M.chunk 6 rfl).inv) hx48 hitE_len) (by decide) rfl rfl) (wS (vB true) rfl (Step.cast (congrArg Value.bool (show (x48.key.toList == (⟨#[99]⟩ : ByteArray).toList) = true by rw [hlit_x48]; decide +kernel)) sP) (wS (vB true) rfl (Step.pick (t := true) rfl rfl) (wM (vB true) ?_)))))
 refine wM (vB true) (wS (vB true) rfl (Step.pick (t := true) rfl rfl) (wM (vB true) (wM v18 (wS (vI (↑((pageL (⟨(⟨#[98]⟩ : ByteArray), sZ, true, sZ, false⟩ : Scn) row4 2).length))) rfl (Step.lenSl Try.un34 rfl (own_slAt (M.chunk 5 rfl).inv)) (wS (vB true) rfl (Step.cast (congrArg Value.bool (show ((↑((pageL (⟨(⟨#[98]⟩ : ByteArray), sZ, true, sZ, false⟩ : Scn) row4 2).length) : Int) == (2 : Int)) = true by decide +kernel)) sP) ?_)))))
 refine wS (vB true) rfl (Step.pick (t := true) rfl rfl) (wM (vB true) (wM v18 ?_))
 obtain ⟨cap50, hb49⟩ := SlAt.base (own_slAt (M.chunk 5 rfl).inv) (by omega)
 obtain ⟨x51, hx51⟩ := elem_of_lt (xs := pageL (⟨(⟨#[98]⟩ : ByteArray), sZ, true, sZ, false⟩ : Scn) row4 2) (i := 0) (by omega)
 have hlit_x51 : x51 = (⟨⟨#[100]⟩, 3⟩ : THit) := Option.some.inj (hx51.symm.trans (by decide +kernel))
 refine wS (vQ v18 0 2) rfl (sX 0 Try.un34 Try.el41 rfl rfl hb49 rfl) (wP (vQ v18 0 2) (wS (vS x51.key) rfl (Step.loadE (k := 0) Try.sc9 (flat_ec (own_slAt (M.chunk 5 rfl).inv) hx51 hitE_len) (by decide) rfl rfl) (wS (vB true) rfl (Step.cast (congrArg Value.bool (show (x51.key.toList == (⟨#[100]⟩ : ByteArray).toList) = true by rw [hlit_x51]; decide +kernel)) sP) (wS (vB true) rfl (Step.pick (t := true) rfl rfl) (wM (vB true) ?_)))))
 refine wM v18 ?_
 obtain ⟨x52, hx52⟩ := elem_of_lt (xs := pageL (⟨(⟨#[98]⟩ : ByteArray), sZ, true, sZ, false⟩ : Scn) row4 2) (i := 1) (by omega)
 have hlit_x52 : x52 = (⟨⟨#[99]⟩, 2⟩ : THit) := Option.some.inj (hx52.symm.trans (by decide +kernel))
 refine wS (vQ v18 1 2) rfl (sX 1 Try.un34 Try.el41 rfl rfl hb49 rfl) (wP (vQ v18 1 2) (wS (vS x52.key) rfl (Step.loadE (k := 0) Try.sc9 (flat_ec (own_slAt (M.chunk 5 rfl).inv) hx52 hitE_len) (by decide) rfl rfl) (wS (vB true) rfl (Step.cast (congrArg Value.bool (show (x52.key.toList == (⟨#[99]⟩ : ByteArray).toList) = true by rw [hlit_x52]; decide +kernel)) sP) (wS (vB true) rfl (Step.pick (t := true) rfl rfl) (wM (vB true) ?_)))))
 refine wM (vB false) (wP (vB true) (wS (vB true) rfl (Step.pick (t := true) rfl rfl) (wM (vB true) (wP (vP b24) (wS (vS (((peekR (pageS (⟨(⟨#[98]⟩ : ByteArray), sZ, true, sZ, false⟩ : Scn) row4 2) row4).1).key)) rfl (Step.load1 Try.sc9 rfl ((M.cell 4 rfl 0).trans rfl)) ?_)))))
 refine wS (vB true) rfl (Step.cast (congrArg Value.bool (show ((((peekR (pageS (⟨(⟨#[98]⟩ : ByteArray), sZ, true, sZ, false⟩ : Scn) row4 2) row4).1).key).toList == (⟨#[98]⟩ : ByteArray).toList) = true by decide +kernel)) sP) (wS (vB true) rfl (Step.pick (t := true) rfl rfl) (wM (vB true) (wM (vB true) (wS (vB true) rfl (Step.pick (t := true) rfl rfl) (wM (vB true) ?_)))))
 refine wM (vB false) (wP (vB true) (wS (vB true) rfl (Step.pick (t := true) rfl rfl) (wM (vB true) (wP (vP b34) (wS (vS (((peekR (⟨(⟨#[97]⟩ : ByteArray), sZ, false, sZ, false⟩ : Scn) row4).1).key)) rfl (Step.load1 Try.sc9 rfl ((M.cell 3 rfl 0).trans rfl)) ?_)))))
 refine wS (vB true) rfl (Step.cast (congrArg Value.bool (show ((((peekR (⟨(⟨#[97]⟩ : ByteArray), sZ, false, sZ, false⟩ : Scn) row4).1).key).toList == (⟨#[97]⟩ : ByteArray).toList) = true by decide +kernel)) sP) (wS (vB true) rfl (Step.pick (t := true) rfl rfl) (wM (vB true) (wM (vB true) (wS (vB true) rfl (Step.pick (t := true) rfl rfl) (wM (vB true) ?_)))))
 refine wP (vP b42) (wS (vS (((peekR (nextR (⟨(⟨#[97]⟩ : ByteArray), sZ, false, sZ, false⟩ : Scn) row4) (delL (delL row4 (⟨#[98]⟩ : ByteArray)) (⟨#[99]⟩ : ByteArray))).1).key)) rfl (Step.load1 Try.sc9 rfl ((M.cell 0 rfl 0).trans rfl)) (wS (vB true) rfl (Step.cast (congrArg Value.bool (show ((((peekR (nextR (⟨(⟨#[97]⟩ : ByteArray), sZ, false, sZ, false⟩ : Scn) row4) (delL (delL row4 (⟨#[98]⟩ : ByteArray)) (⟨#[99]⟩ : ByteArray))).1).key).toList == (⟨#[100]⟩ : ByteArray).toList) = true by decide +kernel)) sP) (wS (vB true) rfl (Step.pick (t := true) rfl rfl) (wM (vB true) (wM (vB true) ?_)))))
 refine wS (vB true) rfl (Step.pick (t := true) rfl rfl) (wA (vB true) (WL.nil ?_))
 refine W.ret ?_
 refine ⟨.inl rfl, (vB true), ?_, ?_⟩
 · exact ⟨rfl, (Res.r1 (show RV _ _ _ (.tmp 0) (vB true) from by exact rfl))⟩
 refine ⟨?_, M.close [] rfl (by decide) trivial⟩
 rfl
end Go.Proofs
set_option maxRecDepth 100000
namespace Go.Proofs
open Go Tp
theorem Try.en11 : Enters Try.prog 11 := fun _ _ => by kernel_rfl
theorem Try.en12 : Enters Try.prog 12 := fun _ _ => by kernel_rfl
theorem Try.en20 : Enters Try.prog 20 := fun _ _ => by kernel_rfl
end Go.Proofs
namespace Tp
open Go
def stayP (ks : List ByteArray) (l : List TAct) (s : Scn) (ss : List ByteArray) : Prop := ∀ k, k ∈ ss → k ∈ ks ∧ withinS s k = true ∧ ∀ a, a ∈ l → a.k ≠ k
def tchP (l : List TAct) (s : Scn) (n : Nat) (x : ByteArray) : Prop := withinS s x = true ∧ ∀ (j : Nat) u, j < n → l[j]? = some u → u.k ≠ x
structure WI (ks : List ByteArray) (l : List TAct) (ss : List ByteArray) (b : Bool) (i : Nat) (row : List THit) (s : Scn) (ts : List ByteArray) : Prop where
  tell : tellOk s ts
  stay : stayOk s row ts ss
  rest : (restR s row).length + (i - 40) ≤ 40
  back : s.back = b
  len : ts.length ≤ 5 * i
structure WP (ks : List ByteArray) (l : List TAct) (ss : List ByteArray) (b : Bool) (i : Nat) (row : List THit) (s : Scn) (ts : List ByteArray) : Prop where
  tell : tellOk s ts
  stay : stayOk s row ts ss
  rest : (restR s row).length + (i - 40) ≤ 39 ∨ (restR s row).length = 0
  back : s.back = b
  len : ts.length ≤ 5 * i + 5
section
variable {ks ss ts : List ByteArray} {l : List TAct} {b : Bool} {i n : Nat} {row : List THit} {s s0 : Scn} {q : Int} {x : ByteArray} {a : TAct} {f t : ByteArray}
theorem stayP_nil : stayP ks l s [] := fun _ h => by cases h
theorem tchP_zero (h : withinS s x = true) : tchP l s 0 x := ⟨h, fun _ _ hj => absurd hj (Nat.not_lt_zero _)⟩
theorem tchP_step (h : tchP l s n x) (ha : l[n]? = some a) (hk : a.k ≠ x) : tchP l s (n + 1) x := ⟨h.1, fun j u hj hu => by
  rcases Nat.lt_or_ge j n with hm | hm
  · exact h.2 j u hm hu
  · have : j = n := by omega
    subst this; rw [ha] at hu; cases hu; exact hk⟩
theorem stayP_add (h : stayP ks l s ss) (hx : ks[i]? = some x) (ht : tchP l s n x) (hn : l.length ≤ n) : stayP ks l s (ss ++ [x]) := fun k hk => by
  rcases List.mem_append.1 hk with hk | hk
  · exact h k hk
  · rw [List.mem_singleton] at hk; subst hk
    refine ⟨List.mem_of_getElem? hx, ht.1, fun a ha => ?_⟩
    obtain ⟨j, hj⟩ := List.getElem?_of_mem ha
    exact ht.2 j a (by have := (List.getElem?_eq_some_iff.1 hj).1; omega) hj
theorem putR_self (hu : upT row) {z : THit} : z ∈ putR row z := by
  rw [putR_eq hu]; unfold putL; exact List.mem_append_right _ (List.mem_cons_self ..)
theorem rowE_up : ∀ {i : Nat}, upT (rowE ks i) := by
  intro i
  induction i with
  | zero => exact List.Pairwise.nil
  | succ i ih =>
    cases hy : ks[i]? with
    | none =>
      have e : rowE ks (i + 1) = rowE ks i := by show (match ks[i]? with | some k => putR (rowE ks i) ⟨k, i⟩ | none => rowE ks i) = _; rw [hy]
      rw [e]; exact ih
    | some y => rw [rowE_succ hy, putR_eq ih]; exact putL_up ih
theorem rowE_has : ∀ {i : Nat}, x ∈ ks.take i → ∃ a, a ∈ rowE ks i ∧ a.key = x := by
  intro i
  induction i with
  | zero => intro h; simp at h
  | succ i ih =>
    intro h
    have hup := rowE_up (ks := ks) (i := i)
    cases hy : ks[i]? with
    | none =>
      have hl : ks.length ≤ i := List.getElem?_eq_none_iff.1 hy
      rw [List.take_of_length_le (by omega)] at h
      have e : rowE ks (i + 1) = rowE ks i := by show (match ks[i]? with | some k => putR (rowE ks i) ⟨k, i⟩ | none => rowE ks i) = _; rw [hy]
      rw [e]; exact ih (by rw [List.take_of_length_le hl]; exact h)
    | some y =>
      rw [rowE_succ hy]
      rw [List.take_succ, List.mem_append, hy] at h
      by_cases e : x = y
      · subst e; exact ⟨⟨x, i⟩, putR_self hup, rfl⟩
      · rcases h with h | h
        · obtain ⟨a, ha, rfl⟩ := ih h
          exact ⟨a, putR_keep hup ha e, rfl⟩
        · simp at h; exact absurd h e
theorem WI.init (hk : ks.length ≤ 40) (hr : (rowE ks ks.length).length ≤ ks.length) (h : stayP ks l ⟨f, t, b, sZ, false⟩ ss) : WI ks l ss b 0 (rowE ks ks.length) ⟨f, t, b, sZ, false⟩ [] where
  tell := tell_nil
  stay := fun k hk => .inr <| by
    obtain ⟨h1, h2, _⟩ := h k hk
    obtain ⟨a, ha, rfl⟩ := rowE_has (ks := ks) (i := ks.length) (by rw [List.take_length]; exact h1)
    exact ⟨a, mem_rest ha (by unfold leftB; rw [h2]; rfl), rfl⟩
  rest := by have := rest_le (s := ⟨f, t, b, sZ, false⟩) (row := rowE ks ks.length); omega
  back := rfl
  len := by simp
theorem WI.page (h : WI ks l ss b i row s ts) (hu : upT row) (h1 : 1 ≤ q) (h5 : q ≤ 5) : WP ks l ss b i row (pageS s row q) (ts ++ (pageL s row q).map THit.key) where
  tell := tell_page hu q h.tell
  stay := stay_page hu q h.stay
  rest := by have := page_pos (s := s) hu h1; have := h.rest; omega
  back := (page_back q).trans h.back
  len := by
    have : (pageL s row q).length ≤ 5 := by unfold pageL pageN; rw [List.length_take]; omega
    rw [List.length_append, List.length_map]; have := h.len; omega
theorem WP.put (h : WP ks l ss b i row s ts) (hu : upT row) (hs : stayP ks l s0 ss) (ha : l[i]? = some a) (hl : l.length ≤ 40) {v : Int} : WI ks l ss b (i + 1) (putR row ⟨a.k, v⟩) s ts where
  tell := h.tell
  stay := stay_put hu (fun k hk e => (hs k hk).2.2 a (List.mem_of_getElem? ha) e.symm) h.stay
  rest := by have := rest_put (s := s) hu (z := ⟨a.k, v⟩); have := h.rest; have := (List.getElem?_eq_some_iff.1 ha).1; omega
  back := h.back
  len := by have := h.len; omega
theorem WP.del (h : WP ks l ss b i row s ts) (hs : stayP ks l s0 ss) (ha : l[i]? = some a) (hl : l.length ≤ 40) : WI ks l ss b (i + 1) (delL row a.k) s ts where
  tell := h.tell
  stay := stay_del (fun k hk e => (hs k hk).2.2 a (List.mem_of_getElem? ha) e.symm) h.stay
  rest := by have := rest_del (s := s) (row := row) (z := a.k); have := h.rest; have := (List.getElem?_eq_some_iff.1 ha).1; omega
  back := h.back
  len := by have := h.len; omega
theorem WP.on (h : WP ks l ss b i row s ts) (hr : (restR s row).length ≠ 0) : WI ks l ss b (i + 1) row s ts where
  tell := h.tell
  stay := h.stay
  rest := by have := h.rest; omega
  back := h.back
  len := by have := h.len; omega
theorem page_more (hu : upT row) (h : pageD s row q = false) : (restR (pageS s row q) row).length ≠ 0 := by
  rw [page_done hu] at h
  rw [page_rest hu, List.length_drop]
  have : ¬ (restR s row).length ≤ pageN s row q := by simpa using h
  omega
theorem WP.end_ (h : WP ks l ss b i row s ts) (hr : restR s row = []) : (∀ k, k ∈ ss → k ∈ ts) ∧ ∀ (i : Nat) x y, ts[i - 1]? = some x → ts[i]? = some y → 0 < i → x ≠ y ∧ sLt y x = b :=
  ⟨stay_end h.stay hr, fun i x y hx hy hi => by have := tell_at h.tell hx hy hi; rw [h.back] at this; exact this⟩
theorem page_get (hu : upT row) {z : THit} (hz : (pageL s row q)[n]? = some z) : getL row z.key = (z.val, true) :=
  getL_mem_of hu (rest_mem ((List.take_sublist _ _).subset (List.mem_of_getElem? hz))).1
theorem page_five (h : q ≤ 5) : (pageL s row q).length ≤ 5 := by unfold pageL pageN; rw [List.length_take]; omega
theorem pick_five (n : Int) : 0 ≤ pickI n 5 ∧ pickI n 5 ≤ 4 := by
  have h1 := tmod_bounds (a := n) (b := 5) (by omega)
  have e : pickI n 5 = (n.tmod 5 + 5).tmod 5 := by unfold pickI; rw [if_neg (by omega)]
  have h2 := tmod_bounds (a := n.tmod 5 + 5) (b := 5) (by omega)
  have h3 : (n.tmod 5 + 5).tmod 5 = (n.tmod 5 + 5) % 5 := Int.tmod_eq_emod_of_nonneg (by omega)
  rw [e, h3]; omega
theorem page_100 (f t : ByteArray) (hr : row.length ≤ 100) : pageL ⟨f, t, false, sZ, false⟩ row 100 = restR ⟨f, t, false, sZ, false⟩ row ∧ pageL ⟨f, t, true, sZ, false⟩ row 100 = (restR ⟨f, t, false, sZ, false⟩ row).reverse := by
  have h1 := rest_le (s := ⟨f, t, false, sZ, false⟩) (row := row)
  have h2 := rest_le (s := ⟨f, t, true, sZ, false⟩) (row := row)
  exact ⟨page_all (Nat.le_trans h1 hr), by rw [page_all (q := 100) (Nat.le_trans h2 hr), rest_rev]⟩
theorem wn_z (h1 : sLt x f = false) (h2 : t = sZ) : withinS ⟨f, t, b, sZ, false⟩ x = true := by unfold withinS; simp [h1, h2]
theorem wn_t (h1 : sLt x f = false) (h3 : sLt x t = true) : withinS ⟨f, t, b, sZ, false⟩ x = true := by unfold withinS; simp [h1, h3]
theorem nth_zero {l : List ByteArray} : ∀ (j : Nat) u, j < 0 → l[j]? = some u → u ≠ x := fun _ _ hj => absurd hj (Nat.not_lt_zero _)
theorem nth_step {l : List ByteArray} {y : ByteArray} (h : ∀ (j : Nat) u, j < n → l[j]? = some u → u ≠ x) (hy : l[n]? = some y) (hk : y ≠ x) : ∀ (j : Nat) u, j < n + 1 → l[j]? = some u → u ≠ x := fun j u hj hu => by
  rcases Nat.lt_or_ge j n with hm | hm
  · exact h j u hm hu
  · have : j = n := by omega
    subst this; rw [hy] at hu; cases hu; exact hk
theorem nth_not {l : List ByteArray} (h : ∀ (j : Nat) u, j < n → l[j]? = some u → u ≠ x) (hn : l.length ≤ n) : ¬ x ∈ l := fun hx => by
  obtain ⟨j, hj⟩ := List.getElem?_of_mem hx
  exact h j x (by have := (List.getElem?_eq_some_iff.1 hj).1; omega) hj rfl
end
end Tp
set_option maxRecDepth 100000
namespace Go.Proofs
open Go Tp
theorem law13_walks {G : Nat → Prop} {w : World} (kv : Value) (ks : List ByteArray) (f : ByteArray) (t : ByteArray) (b : Bool) (v : Value) (l : List TAct) (n : Int)   (M : Mem G (fun _ => False) w [] [fS kv ks, SlAt 3 v l.length (l.flatMap actE)] w) : Rets Try.prog 3 #[kv, (vS f), (vS t), (vB b), v, (vI n)] w fun r w' => r = (vB true) ∧ Mem G (fun _ => False) w [] [] w' := by
 refine Rets.enter 293 _ Try.func3 rfl Try.ntmps3 Try.results3 (by simp) ?_
 have hle1 := SlAt.le' (M.rep 0 rfl)
 have hle2 := SlAt.le' (M.rep 1 rfl)
 have sl3 : IsSl kv := SlAt.isSl (Mem.rep M 0 rfl)
 have sl4 : IsSl v := SlAt.isSl (Mem.rep M 1 rfl)
 refine wR (wA (vB false) (WL.nil (W.seq' (wR (wM kv ?_)))))
 refine wS (vI ↑ks.length) rfl (Step.lenSl Try.un22 rfl (M.rep 0 rfl)) (wP (vB (decide ((↑ks.length : Int) > (40 : Int)))) (wM (vB (decide ((↑ks.length : Int) > (40 : Int)))) ?_))
 rcases Bool.eq_false_or_eq_true (decide ((↑ks.length : Int) > (40 : Int))) with h5 | h5
 ·
  have h5p := of_decide_eq_true h5
  rw [h5]
  refine WL.pass rfl ?_
  refine WL.pass rfl ?_
  refine WL.pass rfl ?_
  refine wS (vB true) rfl (Step.pick (t := true) rfl rfl) (WL.nil ?_)
  refine W.cond (t := true) rfl (fun _ => ?_) (fun h => by cases h)
  refine wR ?_
  refine WL.callX rfl (l13_works  (M.enterW0 trivial)) (CallsF.func Try.en12 rfl) ?_
  rintro _ w6 ⟨rfl, m⟩
  replace M := M.leaveW0 m
  clear m
  refine wA (vB true) (WL.nil ?_)
  refine W.ret ?_
  refine ⟨.inl rfl, (vB true), ?_, ?_⟩
  · exact ⟨rfl, (Res.r1 (show RV _ _ _ (.tmp 12) (vB true) from by exact rfl))⟩
  refine ⟨?_, M.close [] rfl (by decide) trivial⟩
  rfl
 ·
  have h5p := of_decide_eq_false h5
  rw [h5]
  refine wM v ?_
  refine WL.callX rfl (l13_few v l 40 (M.enterW0 ⟨(M.wideR0 1 rfl), trivial⟩)) (CallsF.func Try.en11 rfl) ?_
  rintro _ w7 ⟨rfl, m⟩
  replace M := M.leaveW0 m
  clear m
  refine wP (vB (!(fewS l 40))) (wS (vB (!(fewS l 40))) rfl (Step.pick (t := false) rfl rfl) (WL.nil ?_))
  refine W.cond (t := !(fewS l 40)) rfl (fun h8 => ?_) (fun h8 => ?_)
  ·
   refine wR ?_
   refine WL.callX rfl (l13_works  (M.enterW0 trivial)) (CallsF.func Try.en12 rfl) ?_
   rintro _ w9 ⟨rfl, m⟩
   replace M := M.leaveW0 m
   clear m
   refine wA (vB true) (WL.nil ?_)
   refine W.ret ?_
   refine ⟨.inl rfl, (vB true), ?_, ?_⟩
   · exact ⟨rfl, (Res.r1 (show RV _ _ _ (.tmp 12) (vB true) from by exact rfl))⟩
   refine ⟨?_, M.close [] rfl (by decide) trivial⟩
   rfl
  ·
   have hfw_ := fewS_fact (show fewS l 40 = true by simpa using h8)
   refine W.skip (wR (wM kv ?_))
   refine WL.callX rfl (l13_planted kv ks (by first | omega | decide) (M.enter0 ⟨(M.shr' 0 rfl), trivial⟩)) (CallsF.func Try.en13 rfl) ?_
   rintro _ w13 ⟨tb10, S11, rv12, rfl, m⟩
   replace M := M.leave0 m
   clear m
   have sl14 : IsSl rv12 := SlAt.isSl (Mem.rep M 0 rfl)
   have hle15 := SlAt.le' (M.rep 0 rfl)
   refine wM (Value.tuple #[(vP tb10), rv12]) (wP (vP tb10) (wP rv12 (wA (vP tb10) (wA rv12 (WL.nil ?_)))))
   refine wR (wA vZ (WL.nil (W.seq' (wR (wA (vI 0) ?_)))))
   refine WL.nil (W.block ?_)
   replace M := M.ownNil 9 1
   replace M := M.facts (R' := [fS kv ks, SlAt 3 v l.length (l.flatMap actE)]) (Facts.all ⟨M.shr' 1 rfl, M.shr' 2 rfl, trivial⟩)
   refine W.loop (fun kk ρ w' => ∃ (i_ : Nat) (sv_ : Value) (ss_ : List ByteArray), ((i_ ≤ ks.length) ∧ (ss_.length ≤ i_) ∧ (stayP ks l (⟨f, t, b, sZ, false⟩ : Scn) ss_) ∧ kk = ks.length - i_) ∧ ρ.has [(0, kv), (1, (vS f)), (2, (vS t)), (3, (vB b)), (4, v), (5, (vI n)), (12, (vB false)), (13, (vP tb10)), (15, sv_), (16, (vI ↑i_))] ∧ Mem G (fun _ => False) w [oS sv_ ss_, tT S11 tb10 (rowE ks ks.length) ks.length] [fS kv ks, SlAt 3 v l.length (l.flatMap actE)]  w') _ ⟨0, vZ, ([] : List ByteArray), ⟨(Nat.zero_le _), (Nat.le_refl _), stayP_nil, rfl⟩, ⟨rfl, rfl, rfl, rfl, rfl, rfl, rfl, rfl, rfl, rfl, rfl, rfl⟩, M⟩ ?_
   rintro _ ρ17 w16 ⟨i_, sv_, ss_, ⟨hi18, hi19, hi20, rfl⟩, hρ, M⟩
   obtain ⟨ρ17, rfl⟩ := hρ.know
   clear hρ
   have sl21 : IsSl sv_ := SlAt.isSl (own_slAt (M.chunk 0 rfl).inv)
   have hst_ : stayP ks l (⟨f, t, b, sZ, false⟩ : Scn) ss_ := hi20
   have hbss_ : ss_.length ≤ 100000 := by omega
   refine W.seq' (wR (wM (vI ↑i_) (wM kv (wS (vI ↑ks.length) rfl (Step.lenSl Try.un22 rfl (M.rep 0 rfl)) (wP (vB (decide ((↑i_ : Int) < (↑ks.length : Int)))) ?_)))))
   refine WL.nil ?_
   refine W.cond (t := decide ((↑i_ : Int) < (↑ks.length : Int))) rfl (fun h22 => ?_) (fun h22 => ?_)
   ·
    have h22p := of_decide_eq_true h22
    refine W.skip (W.seq' (W.block (wR (wM kv (wM (vI ↑i_) ?_)))))
    obtain ⟨cap24, hb23⟩ := SlAt.base (M.rep 0 rfl) (by omega)
    refine wS (vQ kv i_ 1) rfl (sX i_ Try.un22 Try.el9 rfl rfl hb23) ?_
    obtain ⟨x25, hx25⟩ := elem_of_lt (xs := ks) (i := i_) (by omega)
    refine wS (vS x25) rfl (Step.loadE (k := 0) Try.sc9 (flat_ec (M.rep 0 rfl) hx25 strE_len) (by decide) rfl rfl) (wM (vS f) (wP (vB (sLt x25 f)) (wM (vB (sLt x25 f)) ?_)))
    rcases Bool.eq_false_or_eq_true (sLt x25 f) with h26 | h26
    ·
     rw [h26]
     refine WL.pass rfl ?_
     refine WL.pass rfl ?_
     refine WL.pass rfl ?_
     refine WL.pass rfl ?_
     refine WL.pass rfl ?_
     refine WL.pass rfl ?_
     refine WL.pass rfl ?_
     refine WL.pass rfl ?_
     refine WL.pass rfl ?_
     refine WL.pass rfl ?_
     refine wS (vB true) rfl (Step.pick (t := true) rfl rfl) (wA (vB true) (WL.nil (W.seq' (wR (wA (vI 0) ?_)))))
     refine WL.nil (W.block ?_)
     refine W.loop (fun kk ρ w' => ∃ (k_ : Nat) (td_ : Bool), ((k_ ≤ l.length) ∧ (td_ = false → tchP l (⟨f, t, b, sZ, false⟩ : Scn) k_ x25) ∧ kk = l.length - k_) ∧ ρ.has [(0, kv), (1, (vS f)), (2, (vS t)), (3, (vB b)), (4, v), (5, (vI n)), (12, (vB false)), (13, (vP tb10)), (15, sv_), (16, (vI ↑i_)), (17, (vB td_)), (18, (vI ↑k_)), (50, (vI ↑i_)), (51, kv), (52, (vI ↑ks.length)), (53, (vB (decide ((↑i_ : Int) < (↑ks.length : Int))))), (56, kv), (57, (vI ↑i_)), (58, (vQ kv i_ 1)), (59, (vS x25)), (60, (vS f)), (61, (vB true)), (62, (vB true)), (73, (vB true))] ∧ Mem G (fun _ => False) w [oS sv_ ss_, tT S11 tb10 (rowE ks ks.length) ks.length] [fS kv ks, SlAt 3 v l.length (l.flatMap actE)]  w') _ ⟨0, true, ⟨(Nat.zero_le _), (fun h_ => by cases h_), rfl⟩, ⟨rfl, rfl, rfl, rfl, rfl, rfl, rfl, rfl, rfl, rfl, rfl, rfl, rfl, rfl, rfl, rfl, rfl, rfl, rfl, rfl, rfl, rfl, rfl, rfl, rfl, rfl⟩, M⟩ ?_
     rintro _ ρ28 w27 ⟨k_, td_, ⟨hi29, hi30, rfl⟩, hρ, M⟩
     obtain ⟨ρ28, rfl⟩ := hρ.know
     clear hρ
     have htd_ : td_ = false → tchP l (⟨f, t, b, sZ, false⟩ : Scn) k_ x25 := hi30
     refine W.seq' (wR (wM (vI ↑k_) (wM v (wS (vI ↑l.length) rfl (Step.lenSl Try.un23 rfl (M.rep 1 rfl)) (wP (vB (decide ((↑k_ : Int) < (↑l.length : Int)))) ?_)))))
     refine WL.nil ?_
     refine W.cond (t := decide ((↑k_ : Int) < (↑l.length : Int))) rfl (fun h31 => ?_) (fun h31 => ?_)
     ·
      have h31p := of_decide_eq_true h31
      refine W.skip (W.seq' (W.block ?_))
      rcases Bool.eq_false_or_eq_true (td_) with h32 | h32
      ·
       refine W.drawn M [0, 1, 2, 3, 4, 5, 6, 7, 8, 9, 10, 11, 12, 13] [] [] _ _ (sY (sY sE)) (fun _ h => h) Try.mixed (by kernel_rfl) ?_
       refine tP (vB true) rfl (fun w => (Step.cast (congrArg Value.bool h32) (Step.move rfl))) ?_
       refine tP (vB true) rfl (fun w => (Step.move rfl)) ?_
       refine TW.skip rfl rfl ?_
       refine TW.skip rfl rfl ?_
       refine TW.skip rfl rfl ?_
       refine TW.skip rfl rfl ?_
       refine TW.skip rfl rfl ?_
       refine TW.skip rfl rfl ?_
       refine TW.skip rfl rfl ?_
       refine TW.skip rfl rfl ?_
       refine TW.skip rfl rfl ?_
       refine TW.skip rfl rfl ?_
       refine tP (vB true) rfl (fun w => (Step.pick (t := true) rfl rfl)) ?_
       refine tP (vB true) rfl (fun w => (Step.assign rfl)) ?_
       refine TW.done (fun w33 M => ?_)
       refine W.region rfl (wM (vI ↑k_) (wS (vI (↑k_ + 1)) rfl (Step.add rfl rfl (wrap_i64 (by omega))) (wA (vI (↑k_ + 1)) (WL.nil ?_))))
       exact ⟨_, (by omega), k_ + 1, true, ⟨(by omega), (fun h_ => by cases h_), rfl⟩, ⟨rfl, rfl, rfl, rfl, rfl, rfl, rfl, rfl, rfl, rfl, rfl, rfl, rfl, rfl, rfl, rfl, rfl, rfl, rfl, rfl, rfl, rfl, rfl, rfl, rfl, rfl⟩, M⟩
      ·
       obtain ⟨cap35, hb34⟩ := SlAt.base (M.rep 1 rfl) (by omega)
       obtain ⟨x36, hx36⟩ := elem_of_lt (xs := l) (i := k_) (by omega)
       refine W.drawn M [0, 1, 2, 3, 4, 5, 6, 7, 8, 9, 10, 11, 12, 13] [] [] _ _ (sY (sY sE)) (fun _ h => h) Try.mixed (by kernel_rfl) ?_
       refine tP (vB false) rfl (fun w => (Step.cast (congrArg Value.bool h32) (Step.move rfl))) ?_
       refine tP (vB false) rfl (fun w => (Step.move rfl)) ?_
       refine tP v rfl (fun w => (Step.move rfl)) ?_
       refine tP (vI ↑k_) rfl (fun w => (Step.move rfl)) ?_
       refine tP (vQ v k_ 3) rfl (fun w => (sX k_ Try.un23 Try.el31 rfl rfl hb34)) ?_
       refine tP (vR v k_ 3 1) rfl (fun w => sP) ?_
       refine tR (vS x36.k) rfl (fun A w M => (Step.loadE (k := 1) Try.sc9 (flat_ec (M.rep 1 rfl) hx36 actE_len) (by decide) rfl rfl)) ?_
       refine tP kv rfl (fun w => (Step.move rfl)) ?_
       refine tP (vI ↑i_) rfl (fun w => (Step.move rfl)) ?_
       refine tP (vQ kv i_ 1) rfl (fun w => (sX i_ Try.un22 Try.el9 rfl rfl hb23)) ?_
       refine tR (vS x25) rfl (fun A w M => (Step.loadE (k := 0) Try.sc9 (flat_ec (M.rep 0 rfl) hx25 strE_len) (by decide) rfl rfl)) ?_
       refine tP (vB (x36.k.toList == x25.toList)) rfl (fun w => sP) ?_
       refine tP (vB (x36.k.toList == x25.toList)) rfl (fun w => (Step.pick (t := false) rfl rfl)) ?_
       refine tP (vB (x36.k.toList == x25.toList)) rfl (fun w => (Step.assign rfl)) ?_
       refine TW.done (fun w37 M => ?_)
       refine W.region rfl (wM (vI ↑k_) (wS (vI (↑k_ + 1)) rfl (Step.add rfl rfl (wrap_i64 (by omega))) (wA (vI (↑k_ + 1)) (WL.nil ?_))))
       exact ⟨_, (by omega), k_ + 1, (x36.k.toList == x25.toList), ⟨(by omega), (fun h_ => tchP_step (htd_ (by simpa using h32)) hx36 (by rw [sEq_dec] at h_; simpa using h_)), rfl⟩, ⟨rfl, rfl, rfl, rfl, rfl, rfl, rfl, rfl, rfl, rfl, rfl, rfl, rfl, rfl, rfl, rfl, rfl, rfl, rfl, rfl, rfl, rfl, rfl, rfl, rfl, rfl⟩, M⟩
     ·
      have h31p := of_decide_eq_false h31
      refine W.exit ?_
      refine thn_exit ?_
      refine thn_exit ?_
      refine inBlk_hit ?_
      refine wR (wM (vB td_) (wP (vB !td_) (WL.nil ?_)))
      refine W.cond (t := !td_) rfl (fun h38 => ?_) (fun h38 => ?_)
      ·
       refine W.region rfl (wM sv_ (wM kv (wM (vI ↑i_) (wS (vQ kv i_ 1) rfl (sX i_ Try.un22 Try.el9 rfl rfl hb23) (wS (vS x25) rfl (Step.loadE (k := 0) Try.sc9 (flat_ec (M.rep 0 rfl) hx25 strE_len) (by decide) rfl rfl) ?_)))))
       refine WL.new (obj := .cells #[(vS x25)] 9) (fun b => .slice (some ⟨b, 0, none⟩) 1 1) M rfl (fun w => Step.make (by kernel_rfl)) (fun b39 w40 hb39 M => ?_)
       refine WL.does rfl (M.appendF ss_ ([x25] : List ByteArray) (sv := (Value.slice (some ⟨b39, 0, none⟩) 1 1)) 1 Try.un22 Try.el9 rfl (by decide) rfl rfl rfl (SlAt.of_blk (M.blk 0 rfl) rfl (by decide)) strE_cel (by have := hbss_; simp only [maxLen, List.length_nil, List.length_cons, List.length_append]; omega) (by have := hbss_; (try simp only [List.length_nil, List.length_cons, List.length_append]); omega)) ?_
       rintro v41 w42 M
       have sl43 : IsSl v41 := SlAt.isSl (own_slAt (M.chunk 1 rfl).inv)
       refine wA v41 (WL.nil (W.region rfl (wM (vI ↑i_) (wS (vI (↑i_ + 1)) rfl (Step.add rfl rfl (wrap_i64 (by omega))) (wA (vI (↑i_ + 1)) ?_)))))
       refine WL.nil ?_
       replace M := M.sel (L' := [oS v41 (ss_ ++ ([x25] : List ByteArray)), tT S11 tb10 (rowE ks ks.length) ks.length]) [1, 2] rfl (by decide)
       exact ⟨_, (by omega), i_ + 1, v41, ss_ ++ ([x25] : List ByteArray), ⟨(by omega), (by simp; omega), (stayP_add hst_ hx25 (htd_ (by simpa using h38)) (by omega)), rfl⟩, ⟨rfl, rfl, rfl, rfl, rfl, rfl, rfl, rfl, rfl, rfl, rfl, rfl⟩, M⟩
      ·
       refine W.skip (W.region rfl (wM (vI ↑i_) (wS (vI (↑i_ + 1)) rfl (Step.add rfl rfl (wrap_i64 (by omega))) (wA (vI (↑i_ + 1)) (WL.nil ?_)))))
       exact ⟨_, (by omega), i_ + 1, sv_, ss_, ⟨(by omega), (by omega), hst_, rfl⟩, ⟨rfl, rfl, rfl, rfl, rfl, rfl, rfl, rfl, rfl, rfl, rfl, rfl⟩, M⟩
    ·
     rw [h26]
     refine wM (vS t) (wP (vB (!(t.toList == sZ.toList))) (wM (vB (!(t.toList == sZ.toList))) ?_))
     rcases Bool.eq_false_or_eq_true (!(t.toList == sZ.toList)) with h44 | h44
     ·
      rw [h44]
      refine wM kv (wM (vI ↑i_) (wS (vQ kv i_ 1) rfl (sX i_ Try.un22 Try.el9 rfl rfl hb23) (wS (vS x25) rfl (Step.loadE (k := 0) Try.sc9 (flat_ec (M.rep 0 rfl) hx25 strE_len) (by decide) rfl rfl) (wM (vS t) (wP (vB (!(sLt x25 t))) ?_)))))
      refine wS (vB (!(sLt x25 t))) rfl (Step.pick (t := true) rfl rfl) (wS (vB (!(sLt x25 t))) rfl (Step.pick (t := false) rfl rfl) (wA (vB (!(sLt x25 t))) (WL.nil (W.seq' (wR ?_)))))
      refine wA (vI 0) (WL.nil (W.block ?_))
      refine W.loop (fun kk ρ w' => ∃ (k_ : Nat) (td_ : Bool), ((k_ ≤ l.length) ∧ (td_ = false → tchP l (⟨f, t, b, sZ, false⟩ : Scn) k_ x25) ∧ kk = l.length - k_) ∧ ρ.has [(0, kv), (1, (vS f)), (2, (vS t)), (3, (vB b)), (4, v), (5, (vI n)), (12, (vB false)), (13, (vP tb10)), (15, sv_), (16, (vI ↑i_)), (17, (vB td_)), (18, (vI ↑k_)), (50, (vI ↑i_)), (51, kv), (52, (vI ↑ks.length)), (53, (vB (decide ((↑i_ : Int) < (↑ks.length : Int))))), (56, kv), (57, (vI ↑i_)), (58, (vQ kv i_ 1)), (59, (vS x25)), (60, (vS f)), (61, (vB false)), (62, (vB false)), (63, (vS t)), (64, (vB true)), (65, (vB true)), (66, kv), (67, (vI ↑i_)), (68, (vQ kv i_ 1)), (69, (vS x25)), (70, (vS t)), (71, (vB (!(sLt x25 t)))), (72, (vB (!(sLt x25 t)))), (73, (vB (!(sLt x25 t))))] ∧ Mem G (fun _ => False) w [oS sv_ ss_, tT S11 tb10 (rowE ks ks.length) ks.length] [fS kv ks, SlAt 3 v l.length (l.flatMap actE)]  w') _ ⟨0, (!(sLt x25 t)), ⟨(Nat.zero_le _), (fun h_ => tchP_zero (wn_t (by simpa using h26) (by simpa using h_))), rfl⟩, ⟨rfl, rfl, rfl, rfl, rfl, rfl, rfl, rfl, rfl, rfl, rfl, rfl, rfl, rfl, rfl, rfl, rfl, rfl, rfl, rfl, rfl, rfl, rfl, rfl, rfl, rfl, rfl, rfl, rfl, rfl, rfl, rfl, rfl, rfl, rfl, rfl⟩, M⟩ ?_
      rintro _ ρ46 w45 ⟨k_, td_, ⟨hi47, hi48, rfl⟩, hρ, M⟩
      obtain ⟨ρ46, rfl⟩ := hρ.know
      clear hρ
      have htd_ : td_ = false → tchP l (⟨f, t, b, sZ, false⟩ : Scn) k_ x25 := hi48
      refine W.seq' (wR (wM (vI ↑k_) (wM v (wS (vI ↑l.length) rfl (Step.lenSl Try.un23 rfl (M.rep 1 rfl)) (wP (vB (decide ((↑k_ : Int) < (↑l.length : Int)))) ?_)))))
      refine WL.nil ?_
      refine W.cond (t := decide ((↑k_ : Int) < (↑l.length : Int))) rfl (fun h49 => ?_) (fun h49 => ?_)
      ·
       have h49p := of_decide_eq_true h49
       refine W.skip (W.seq' (W.block ?_))
       rcases Bool.eq_false_or_eq_true (td_) with h50 | h50
       ·
        refine W.drawn M [0, 1, 2, 3, 4, 5, 6, 7, 8, 9, 10, 11, 12, 13] [] [] _ _ (sY (sY sE)) (fun _ h => h) Try.mixed (by kernel_rfl) ?_
        refine tP (vB true) rfl (fun w => (Step.cast (congrArg Value.bool h50) (Step.move rfl))) ?_
        refine tP (vB true) rfl (fun w => (Step.move rfl)) ?_
        refine TW.skip rfl rfl ?_
        refine TW.skip rfl rfl ?_
        refine TW.skip rfl rfl ?_
        refine TW.skip rfl rfl ?_
        refine TW.skip rfl rfl ?_
        refine TW.skip rfl rfl ?_
        refine TW.skip rfl rfl ?_
        refine TW.skip rfl rfl ?_
        refine TW.skip rfl rfl ?_
        refine TW.skip rfl rfl ?_
        refine tP (vB true) rfl (fun w => (Step.pick (t := true) rfl rfl)) ?_
        refine tP (vB true) rfl (fun w => (Step.assign rfl)) ?_
        refine TW.done (fun w51 M => ?_)
        refine W.region rfl (wM (vI ↑k_) (wS (vI (↑k_ + 1)) rfl (Step.add rfl rfl (wrap_i64 (by omega))) (wA (vI (↑k_ + 1)) (WL.nil ?_))))
        exact ⟨_, (by omega), k_ + 1, true, ⟨(by omega), (fun h_ => by cases h_), rfl⟩, ⟨rfl, rfl, rfl, rfl, rfl, rfl, rfl, rfl, rfl, rfl, rfl, rfl, rfl, rfl, rfl, rfl, rfl, rfl, rfl, rfl, rfl, rfl, rfl, rfl, rfl, rfl, rfl, rfl, rfl, rfl, rfl, rfl, rfl, rfl, rfl, rfl⟩, M⟩
       ·
        obtain ⟨cap53, hb52⟩ := SlAt.base (M.rep 1 rfl) (by omega)
        obtain ⟨x54, hx54⟩ := elem_of_lt (xs := l) (i := k_) (by omega)
        refine W.drawn M [0, 1, 2, 3, 4, 5, 6, 7, 8, 9, 10, 11, 12, 13] [] [] _ _ (sY (sY sE)) (fun _ h => h) Try.mixed (by kernel_rfl) ?_
        refine tP (vB false) rfl (fun w => (Step.cast (congrArg Value.bool h50) (Step.move rfl))) ?_
        refine tP (vB false) rfl (fun w => (Step.move rfl)) ?_
        refine tP v rfl (fun w => (Step.move rfl)) ?_
        refine tP (vI ↑k_) rfl (fun w => (Step.move rfl)) ?_
        refine tP (vQ v k_ 3) rfl (fun w => (sX k_ Try.un23 Try.el31 rfl rfl hb52)) ?_
        refine tP (vR v k_ 3 1) rfl (fun w => sP) ?_
        refine tR (vS x54.k) rfl (fun A w M => (Step.loadE (k := 1) Try.sc9 (flat_ec (M.rep 1 rfl) hx54 actE_len) (by decide) rfl rfl)) ?_
        refine tP kv rfl (fun w => (Step.move rfl)) ?_
        refine tP (vI ↑i_) rfl (fun w => (Step.move rfl)) ?_
        refine tP (vQ kv i_ 1) rfl (fun w => (sX i_ Try.un22 Try.el9 rfl rfl hb23)) ?_
        refine tR (vS x25) rfl (fun A w M => (Step.loadE (k := 0) Try.sc9 (flat_ec (M.rep 0 rfl) hx25 strE_len) (by decide) rfl rfl)) ?_
        refine tP (vB (x54.k.toList == x25.toList)) rfl (fun w => sP) ?_
        refine tP (vB (x54.k.toList == x25.toList)) rfl (fun w => (Step.pick (t := false) rfl rfl)) ?_
        refine tP (vB (x54.k.toList == x25.toList)) rfl (fun w => (Step.assign rfl)) ?_
        refine TW.done (fun w55 M => ?_)
        refine W.region rfl (wM (vI ↑k_) (wS (vI (↑k_ + 1)) rfl (Step.add rfl rfl (wrap_i64 (by omega))) (wA (vI (↑k_ + 1)) (WL.nil ?_))))
        exact ⟨_, (by omega), k_ + 1, (x54.k.toList == x25.toList), ⟨(by omega), (fun h_ => tchP_step (htd_ (by simpa using h50)) hx54 (by rw [sEq_dec] at h_; simpa using h_)), rfl⟩, ⟨rfl, rfl, rfl, rfl, rfl, rfl, rfl, rfl, rfl, rfl, rfl, rfl, rfl, rfl, rfl, rfl, rfl, rfl, rfl, rfl, rfl, rfl, rfl, rfl, rfl, rfl, rfl, rfl, rfl, rfl, rfl, rfl, rfl, rfl, rfl, rfl⟩, M⟩
      ·
       have h49p := of_decide_eq_false h49
       refine W.exit ?_
       refine thn_exit ?_
       refine thn_exit ?_
       refine inBlk_hit ?_
       refine wR (wM (vB td_) (wP (vB !td_) (WL.nil ?_)))
       refine W.cond (t := !td_) rfl (fun h56 => ?_) (fun h56 => ?_)
       ·
        refine W.region rfl (wM sv_ (wM kv (wM (vI ↑i_) (wS (vQ kv i_ 1) rfl (sX i_ Try.un22 Try.el9 rfl rfl hb23) (wS (vS x25) rfl (Step.loadE (k := 0) Try.sc9 (flat_ec (M.rep 0 rfl) hx25 strE_len) (by decide) rfl rfl) ?_)))))
        refine WL.new (obj := .cells #[(vS x25)] 9) (fun b => .slice (some ⟨b, 0, none⟩) 1 1) M rfl (fun w => Step.make (by kernel_rfl)) (fun b57 w58 hb57 M => ?_)
        refine WL.does rfl (M.appendF ss_ ([x25] : List ByteArray) (sv := (Value.slice (some ⟨b57, 0, none⟩) 1 1)) 1 Try.un22 Try.el9 rfl (by decide) rfl rfl rfl (SlAt.of_blk (M.blk 0 rfl) rfl (by decide)) strE_cel (by have := hbss_; simp only [maxLen, List.length_nil, List.length_cons, List.length_append]; omega) (by have := hbss_; (try simp only [List.length_nil, List.length_cons, List.length_append]); omega)) ?_
        rintro v59 w60 M
        have sl61 : IsSl v59 := SlAt.isSl (own_slAt (M.chunk 1 rfl).inv)
        refine wA v59 (WL.nil (W.region rfl (wM (vI ↑i_) (wS (vI (↑i_ + 1)) rfl (Step.add rfl rfl (wrap_i64 (by omega))) (wA (vI (↑i_ + 1)) ?_)))))
        refine WL.nil ?_
        replace M := M.sel (L' := [oS v59 (ss_ ++ ([x25] : List ByteArray)), tT S11 tb10 (rowE ks ks.length) ks.length]) [1, 2] rfl (by decide)
        exact ⟨_, (by omega), i_ + 1, v59, ss_ ++ ([x25] : List ByteArray), ⟨(by omega), (by simp; omega), (stayP_add hst_ hx25 (htd_ (by simpa using h56)) (by omega)), rfl⟩, ⟨rfl, rfl, rfl, rfl, rfl, rfl, rfl, rfl, rfl, rfl, rfl, rfl⟩, M⟩
       ·
        refine W.skip (W.region rfl (wM (vI ↑i_) (wS (vI (↑i_ + 1)) rfl (Step.add rfl rfl (wrap_i64 (by omega))) (wA (vI (↑i_ + 1)) (WL.nil ?_)))))
        exact ⟨_, (by omega), i_ + 1, sv_, ss_, ⟨(by omega), (by omega), hst_, rfl⟩, ⟨rfl, rfl, rfl, rfl, rfl, rfl, rfl, rfl, rfl, rfl, rfl, rfl⟩, M⟩
     ·
      rw [h44]
      refine WL.pass rfl ?_
      refine WL.pass rfl ?_
      refine WL.pass rfl ?_
      refine WL.pass rfl ?_
      refine WL.pass rfl ?_
      refine WL.pass rfl ?_
      refine wS (vB false) rfl (Step.pick (t := false) rfl rfl) (wS (vB false) rfl (Step.pick (t := false) rfl rfl) (wA (vB false) (WL.nil (W.seq' (wR ?_)))))
      refine wA (vI 0) (WL.nil (W.block ?_))
      refine W.loop (fun kk ρ w' => ∃ (k_ : Nat) (td_ : Bool), ((k_ ≤ l.length) ∧ (td_ = false → tchP l (⟨f, t, b, sZ, false⟩ : Scn) k_ x25) ∧ kk = l.length - k_) ∧ ρ.has [(0, kv), (1, (vS f)), (2, (vS t)), (3, (vB b)), (4, v), (5, (vI n)), (12, (vB false)), (13, (vP tb10)), (15, sv_), (16, (vI ↑i_)), (17, (vB td_)), (18, (vI ↑k_)), (50, (vI ↑i_)), (51, kv), (52, (vI ↑ks.length)), (53, (vB (decide ((↑i_ : Int) < (↑ks.length : Int))))), (56, kv), (57, (vI ↑i_)), (58, (vQ kv i_ 1)), (59, (vS x25)), (60, (vS f)), (61, (vB false)), (62, (vB false)), (63, (vS t)), (64, (vB false)), (65, (vB false)), (72, (vB false)), (73, (vB false))] ∧ Mem G (fun _ => False) w [oS sv_ ss_, tT S11 tb10 (rowE ks ks.length) ks.length] [fS kv ks, SlAt 3 v l.length (l.flatMap actE)]  w') _ ⟨0, false, ⟨(Nat.zero_le _), (fun _ => tchP_zero (wn_z (by simpa using h26) (by have h2_ := h44; simp only [bne, sEq_dec] at h2_; simpa using h2_))), rfl⟩, ⟨rfl, rfl, rfl, rfl, rfl, rfl, rfl, rfl, rfl, rfl, rfl, rfl, rfl, rfl, rfl, rfl, rfl, rfl, rfl, rfl, rfl, rfl, rfl, rfl, rfl, rfl, rfl, rfl, rfl, rfl⟩, M⟩ ?_
      rintro _ ρ63 w62 ⟨k_, td_, ⟨hi64, hi65, rfl⟩, hρ, M⟩
      obtain ⟨ρ63, rfl⟩ := hρ.know
      clear hρ
      have htd_ : td_ = false → tchP l (⟨f, t, b, sZ, false⟩ : Scn) k_ x25 := hi65
      refine W.seq' (wR (wM (vI ↑k_) (wM v (wS (vI ↑l.length) rfl (Step.lenSl Try.un23 rfl (M.rep 1 rfl)) (wP (vB (decide ((↑k_ : Int) < (↑l.length : Int)))) ?_)))))
      refine WL.nil ?_
      refine W.cond (t := decide ((↑k_ : Int) < (↑l.length : Int))) rfl (fun h66 => ?_) (fun h66 => ?_)
      ·
       have h66p := of_decide_eq_true h66
       refine W.skip (W.seq' (W.block ?_))
       rcases Bool.eq_false_or_eq_true (td_) with h67 | h67
       ·
        refine W.drawn M [0, 1, 2, 3, 4, 5, 6, 7, 8, 9, 10, 11, 12, 13] [] [] _ _ (sY (sY sE)) (fun _ h => h) Try.mixed (by kernel_rfl) ?_
        refine tP (vB true) rfl (fun w => (Step.cast (congrArg Value.bool h67) (Step.move rfl))) ?_
        refine tP (vB true) rfl (fun w => (Step.move rfl)) ?_
        refine TW.skip rfl rfl ?_
        refine TW.skip rfl rfl ?_
        refine TW.skip rfl rfl ?_
        refine TW.skip rfl rfl ?_
        refine TW.skip rfl rfl ?_
        refine TW.skip rfl rfl ?_
        refine TW.skip rfl rfl ?_
        refine TW.skip rfl rfl ?_
        refine TW.skip rfl rfl ?_
        refine TW.skip rfl rfl ?_
        refine tP (vB true) rfl (fun w => (Step.pick (t := true) rfl rfl)) ?_
        refine tP (vB true) rfl (fun w => (Step.assign rfl)) ?_
        refine TW.done (fun w68 M => ?_)
        refine W.region rfl (wM (vI ↑k_) (wS (vI (↑k_ + 1)) rfl (Step.add rfl rfl (wrap_i64 (by omega))) (wA (vI (↑k_ + 1)) (WL.nil ?_))))
        exact ⟨_, (by omega), k_ + 1, true, ⟨(by omega), (fun h_ => by cases h_), rfl⟩, ⟨rfl, rfl, rfl, rfl, rfl, rfl, rfl, rfl, rfl, rfl, rfl, rfl, rfl, rfl, rfl, rfl, rfl, rfl, rfl, rfl, rfl, rfl, rfl, rfl, rfl, rfl, rfl, rfl, rfl, rfl⟩, M⟩
       ·
        obtain ⟨cap70, hb69⟩ := SlAt.base (M.rep 1 rfl) (by omega)
        obtain ⟨x71, hx71⟩ := elem_of_lt (xs := l) (i := k_) (by omega)
        refine W.drawn M [0, 1, 2, 3, 4, 5, 6, 7, 8, 9, 10, 11, 12, 13] [] [] _ _ (sY (sY sE)) (fun _ h => h) Try.mixed (by kernel_rfl) ?_
        refine tP (vB false) rfl (fun w => (Step.cast (congrArg Value.bool h67) (Step.move rfl))) ?_
        refine tP (vB false) rfl (fun w => (Step.move rfl)) ?_
        refine tP v rfl (fun w => (Step.move rfl)) ?_
        refine tP (vI ↑k_) rfl (fun w => (Step.move rfl)) ?_
        refine tP (vQ v k_ 3) rfl (fun w => (sX k_ Try.un23 Try.el31 rfl rfl hb69)) ?_
        refine tP (vR v k_ 3 1) rfl (fun w => sP) ?_
        refine tR (vS x71.k) rfl (fun A w M => (Step.loadE (k := 1) Try.sc9 (flat_ec (M.rep 1 rfl) hx71 actE_len) (by decide) rfl rfl)) ?_
        refine tP kv rfl (fun w => (Step.move rfl)) ?_
        refine tP (vI ↑i_) rfl (fun w => (Step.move rfl)) ?_
        refine tP (vQ kv i_ 1) rfl (fun w => (sX i_ Try.un22 Try.el9 rfl rfl hb23)) ?_
        refine tR (vS x25) rfl (fun A w M => (Step.loadE (k := 0) Try.sc9 (flat_ec (M.rep 0 rfl) hx25 strE_len) (by decide) rfl rfl)) ?_
        refine tP (vB (x71.k.toList == x25.toList)) rfl (fun w => sP) ?_
        refine tP (vB (x71.k.toList == x25.toList)) rfl (fun w => (Step.pick (t := false) rfl rfl)) ?_
        refine tP (vB (x71.k.toList == x25.toList)) rfl (fun w => (Step.assign rfl)) ?_
        refine TW.done (fun w72 M => ?_)
        refine W.region rfl (wM (vI ↑k_) (wS (vI (↑k_ + 1)) rfl (Step.add rfl rfl (wrap_i64 (by omega))) (wA (vI (↑k_ + 1)) (WL.nil ?_))))
        exact ⟨_, (by omega), k_ + 1, (x71.k.toList == x25.toList), ⟨(by omega), (fun h_ => tchP_step (htd_ (by simpa using h67)) hx71 (by rw [sEq_dec] at h_; simpa using h_)), rfl⟩, ⟨rfl, rfl, rfl, rfl, rfl, rfl, rfl, rfl, rfl, rfl, rfl, rfl, rfl, rfl, rfl, rfl, rfl, rfl, rfl, rfl, rfl, rfl, rfl, rfl, rfl, rfl, rfl, rfl, rfl, rfl⟩, M⟩
      ·
       have h66p := of_decide_eq_false h66
       refine W.exit ?_
       refine thn_exit ?_
       refine thn_exit ?_
       refine inBlk_hit ?_
       refine wR (wM (vB td_) (wP (vB !td_) (WL.nil ?_)))
       refine W.cond (t := !td_) rfl (fun h73 => ?_) (fun h73 => ?_)
       ·
        refine W.region rfl (wM sv_ (wM kv (wM (vI ↑i_) (wS (vQ kv i_ 1) rfl (sX i_ Try.un22 Try.el9 rfl rfl hb23) (wS (vS x25) rfl (Step.loadE (k := 0) Try.sc9 (flat_ec (M.rep 0 rfl) hx25 strE_len) (by decide) rfl rfl) ?_)))))
        refine WL.new (obj := .cells #[(vS x25)] 9) (fun b => .slice (some ⟨b, 0, none⟩) 1 1) M rfl (fun w => Step.make (by kernel_rfl)) (fun b74 w75 hb74 M => ?_)
        refine WL.does rfl (M.appendF ss_ ([x25] : List ByteArray) (sv := (Value.slice (some ⟨b74, 0, none⟩) 1 1)) 1 Try.un22 Try.el9 rfl (by decide) rfl rfl rfl (SlAt.of_blk (M.blk 0 rfl) rfl (by decide)) strE_cel (by have := hbss_; simp only [maxLen, List.length_nil, List.length_cons, List.length_append]; omega) (by have := hbss_; (try simp only [List.length_nil, List.length_cons, List.length_append]); omega)) ?_
        rintro v76 w77 M
        have sl78 : IsSl v76 := SlAt.isSl (own_slAt (M.chunk 1 rfl).inv)
        refine wA v76 (WL.nil (W.region rfl (wM (vI ↑i_) (wS (vI (↑i_ + 1)) rfl (Step.add rfl rfl (wrap_i64 (by omega))) (wA (vI (↑i_ + 1)) ?_)))))
        refine WL.nil ?_
        replace M := M.sel (L' := [oS v76 (ss_ ++ ([x25] : List ByteArray)), tT S11 tb10 (rowE ks ks.length) ks.length]) [1, 2] rfl (by decide)
        exact ⟨_, (by omega), i_ + 1, v76, ss_ ++ ([x25] : List ByteArray), ⟨(by omega), (by simp; omega), (stayP_add hst_ hx25 (htd_ (by simpa using h73)) (by omega)), rfl⟩, ⟨rfl, rfl, rfl, rfl, rfl, rfl, rfl, rfl, rfl, rfl, rfl, rfl⟩, M⟩
       ·
        refine W.skip (W.region rfl (wM (vI ↑i_) (wS (vI (↑i_ + 1)) rfl (Step.add rfl rfl (wrap_i64 (by omega))) (wA (vI (↑i_ + 1)) (WL.nil ?_)))))
        exact ⟨_, (by omega), i_ + 1, sv_, ss_, ⟨(by omega), (by omega), hst_, rfl⟩, ⟨rfl, rfl, rfl, rfl, rfl, rfl, rfl, rfl, rfl, rfl, rfl, rfl⟩, M⟩
   ·
    have h22p := of_decide_eq_false h22
    refine W.exit ?_
    refine thn_exit ?_
    refine thn_exit ?_
    refine inBlk_hit ?_
    refine wR (wM (vS f) (wM (vS t) (wM (vB b) ?_)))
    refine WL.callX rfl (sc_new f t b (M.enterW0 trivial)) (CallsF.func Try.en14 rfl) ?_
    rintro _ w80 ⟨sb79, rfl, m⟩
    replace M := M.leaveW0 m
    clear m
    refine wA (vP sb79) (WL.nil (wR (wA vZ (WL.nil (W.seq' ?_)))))
    refine wR (wA (vI 0) (WL.nil (W.block ?_)))
    replace M := M.ownNil 9 1
    replace M := M.sel (L' := [tT S11 tb10 (rowE ks ks.length) ks.length, bk sb79 #[(vS ((⟨f, t, b, sZ, false⟩ : Scn).frm)), (vS ((⟨f, t, b, sZ, false⟩ : Scn).to_)), (vB ((⟨f, t, b, sZ, false⟩ : Scn).back)), (vS ((⟨f, t, b, sZ, false⟩ : Scn).at_)), (vB ((⟨f, t, b, sZ, false⟩ : Scn).told))] 88, oS vZ ([] : List ByteArray), oS sv_ ss_]) [3, 1, 0, 2] rfl (by decide)
    obtain ⟨hup0_, hrc0_⟩ := tabC_up (M.chunk 0 rfl).inv
    have hwi0_ := WI.init (by omega) hrc0_ hst_
    have hp5_ := pick_five n
    obtain ⟨q_, hq_, hq1_, hq5_⟩ : ∃ q : Int, (1 : Int) + pickI n 5 = q ∧ 1 ≤ q ∧ q ≤ 5 := ⟨_, rfl, by omega, by omega⟩
    refine W.loop (fun kk ρ w' => ∃ (r_ : Nat) (row_ : List THit) (s_ : Scn) (ts_ : List ByteArray) (tv_ : Value) (S_ : Nat → Prop) (c_ : Nat), ((r_ ≤ 100) ∧ (c_ ≤ ks.length + r_) ∧ (c_ ≤ ks.length + l.length) ∧ (WI ks l ss_ b r_ row_ s_ ts_) ∧ kk = 100 - r_) ∧ ρ.has [(1, (vS f)), (2, (vS t)), (3, (vB b)), (4, v), (5, (vI n)), (13, (vP tb10)), (15, sv_), (19, (vP sb79)), (20, tv_), (21, (vI ↑r_))] ∧ Mem G (fun _ => False) w [tT S_ tb10 row_ c_, bk sb79 #[(vS s_.frm), (vS s_.to_), (vB s_.back), (vS s_.at_), (vB s_.told)] 88, oS tv_ ts_, oS sv_ ss_] [fS kv ks, SlAt 3 v l.length (l.flatMap actE)]  w') _ ⟨0, rowE ks ks.length, (⟨f, t, b, sZ, false⟩ : Scn), ([] : List ByteArray), vZ, S11, ks.length, ⟨(Nat.zero_le _), (Nat.le_refl _), (by omega), hwi0_, rfl⟩, ⟨rfl, rfl, rfl, rfl, rfl, rfl, rfl, rfl, rfl, rfl, rfl, rfl⟩, M⟩ ?_
    rintro _ ρ82 w81 ⟨r_, row_, s_, ts_, tv_, S_, c_, ⟨hi83, hi84, hi85, hi86, rfl⟩, hρ, M⟩
    obtain ⟨ρ82, rfl⟩ := hρ.know
    clear hρ
    have sl87 : IsSl tv_ := SlAt.isSl (own_slAt (M.chunk 2 rfl).inv)
    have hwi_ : WI ks l ss_ b r_ row_ s_ ts_ := hi86
    have hln_ := hwi_.len
    have hrs_ := hwi_.rest
    obtain ⟨hup_, hrc_⟩ := tabC_up (M.chunk 0 rfl).inv
    refine W.seq' (wR (wM (vI ↑r_) (wP (vB (decide ((↑r_ : Int) < (100 : Int)))) (WL.nil ?_))))
    refine W.cond (t := decide ((↑r_ : Int) < (100 : Int))) rfl (fun h88 => ?_) (fun h88 => ?_)
    ·
     have h88p := of_decide_eq_true h88
     refine W.skip (W.seq' (W.block (wR (wM (vP sb79) (wM (vP tb10) ?_)))))
     refine wM (vI n) ?_
     refine WL.callX rfl (kit_pick n 5 (by omega) (M.enterW0 trivial)) (CallsF.func Try.en16 rfl) ?_
     rintro _ w89 ⟨rfl, m⟩
     replace M := M.leaveW0 m
     clear m
     refine wS (vI q_) rfl (Step.cast (congrArg (Value.int .i64) hq_) (Step.add rfl rfl (wrap_i64 (by omega)))) ?_
     have fq := M.frm [bk sb79 #[(vS s_.frm), (vS s_.to_), (vB s_.back), (vS s_.at_), (vB s_.told)] 88, tT S_ tb10 row_ c_] [oS tv_ ts_, oS sv_ ss_] [1, 0, 2, 3] rfl
     refine WL.callX rfl (sc_page sb79 s_ tb10 S_ row_ c_ q_ (by first | assumption | omega) (M.eF fq trivial)) (CallsF.func Try.en15 rfl) ?_
     rintro _ w91 ⟨v90, rfl, m⟩
     replace M := M.lF fq m
     clear m
     have sl92 : IsSl v90 := SlAt.isSl (own_slAt (Mem.chunk M 2 rfl).inv)
     have hle93 := SlAt.le' (own_slAt (Mem.chunk M 2 rfl).inv)
     have hwp_ := hwi_.page hup_ hq1_ hq5_
     have hpl5_ := page_five (s := s_) (row := row_) hq5_
     refine wM (Value.tuple #[v90, (vB (pageD s_ row_ q_))]) (wP v90 (wP (vB (pageD s_ row_ q_)) (wA v90 (wA (vB (pageD s_ row_ q_)) (WL.nil ?_)))))
     refine W.seq' (wR (wA (vI 0) (WL.nil (W.block ?_))))
     replace M : Mem _ _ _ [bk sb79 #[(vS ((pageS s_ row_ q_).frm)), (vS ((pageS s_ row_ q_).to_)), (vB ((pageS s_ row_ q_).back)), (vS ((pageS s_ row_ q_).at_)), (vB ((pageS s_ row_ q_).told))] 88, tT S_ tb10 row_ c_, oR v90 (pageL s_ row_ q_), oS tv_ ts_, oS sv_ ss_] [fS kv ks, SlAt 3 v l.length (l.flatMap actE)] _ := M
     replace M := M.rechunk 3 (c' := oS tv_ (ts_ ++ ((pageL s_ row_ q_).take 0).map THit.key)) rfl (by simp)
     replace M := M.sel (L' := [oS tv_ (ts_ ++ ((pageL s_ row_ q_).take 0).map THit.key), bk sb79 #[(vS ((pageS s_ row_ q_).frm)), (vS ((pageS s_ row_ q_).to_)), (vB ((pageS s_ row_ q_).back)), (vS ((pageS s_ row_ q_).at_)), (vB ((pageS s_ row_ q_).told))] 88, tT S_ tb10 row_ c_, oR v90 (pageL s_ row_ q_), oS sv_ ss_]) [3, 0, 1, 2, 4] rfl (by decide)
     refine W.loop (fun kk ρ w' => ∃ (k_ : Nat) (acck_ : Value), ((k_ ≤ (pageL s_ row_ q_).length) ∧ kk = (pageL s_ row_ q_).length - k_) ∧ ρ.has [(1, (vS f)), (2, (vS t)), (3, (vB b)), (4, v), (5, (vI n)), (13, (vP tb10)), (15, sv_), (19, (vP sb79)), (20, acck_), (21, (vI ↑r_)), (22, v90), (23, (vB (pageD s_ row_ q_))), (24, (vI ↑k_)), (106, (vI ↑r_)), (107, (vB (decide ((↑r_ : Int) < (100 : Int))))), (110, (Value.tuple #[v90, (vB (pageD s_ row_ q_))])), (111, (vP sb79)), (112, (vP tb10)), (113, (vI n)), (114, (vI (pickI n 5))), (115, (vI q_)), (116, (Value.tuple #[v90, (vB (pageD s_ row_ q_))])), (117, v90), (118, (vB (pageD s_ row_ q_)))] ∧ Mem G (fun _ => False) w [oS acck_ (ts_ ++ ((pageL s_ row_ q_).take k_).map THit.key), bk sb79 #[(vS ((pageS s_ row_ q_).frm)), (vS ((pageS s_ row_ q_).to_)), (vB ((pageS s_ row_ q_).back)), (vS ((pageS s_ row_ q_).at_)), (vB ((pageS s_ row_ q_).told))] 88, tT S_ tb10 row_ c_, oR v90 (pageL s_ row_ q_), oS sv_ ss_] [fS kv ks, SlAt 3 v l.length (l.flatMap actE)]  w') _ ⟨0, _, ⟨(Nat.zero_le _), rfl⟩, ⟨rfl, rfl, rfl, rfl, rfl, rfl, rfl, rfl, rfl, rfl, rfl, rfl, rfl, rfl, rfl, rfl, rfl, rfl, rfl, rfl, rfl, rfl, rfl, rfl, rfl, rfl⟩, M⟩ ?_
     rintro _ ρ95 w94 ⟨k_, acck_, ⟨hi96, rfl⟩, hρ, M⟩
     obtain ⟨ρ95, rfl⟩ := hρ.know
     clear hρ
     have sl97 : IsSl acck_ := SlAt.isSl (own_slAt (M.chunk 0 rfl).inv)
     have hacl : (ts_ ++ ((pageL s_ row_ q_).take k_).map THit.key).length ≤ 400000 := by rw [List.length_append, List.length_map, List.length_take]; omega
     have hacn := hacl
     rw [List.length_append] at hacn
     refine W.seq' (wR (wM (vI ↑k_) (wM v90 (wS (vI (↑((pageL s_ row_ q_).length))) rfl (Step.lenSl Try.un34 rfl (own_slAt (M.chunk 3 rfl).inv)) (wP (vB (decide ((↑k_ : Int) < (↑((pageL s_ row_ q_).length) : Int)))) ?_)))))
     refine WL.nil ?_
     refine W.cond (t := decide ((↑k_ : Int) < (↑((pageL s_ row_ q_).length) : Int))) rfl (fun h98 => ?_) (fun h98 => ?_)
     ·
      have h98p := of_decide_eq_true h98
      refine W.skip (W.seq' (W.block (wR (wM (vP tb10) (wM v90 ?_)))))
      refine wM (vI ↑k_) ?_
      obtain ⟨cap100, hb99⟩ := SlAt.base (own_slAt (M.chunk 3 rfl).inv) (by omega)
      refine wS (vQ v90 k_ 2) rfl (sX k_ Try.un34 Try.el41 rfl rfl hb99) (wP (vQ v90 k_ 2) ?_)
      obtain ⟨x101, hx101⟩ := elem_of_lt (xs := pageL s_ row_ q_) (i := k_) (by omega)
      refine wS (vS x101.key) rfl (Step.loadE (k := 0) Try.sc9 (flat_ec (own_slAt (M.chunk 3 rfl).inv) hx101 hitE_len) (by decide) rfl rfl) ?_
      have fq := M.frm [tT S_ tb10 row_ c_] [oS acck_ (ts_ ++ ((pageL s_ row_ q_).take k_).map THit.key), bk sb79 #[(vS ((pageS s_ row_ q_).frm)), (vS ((pageS s_ row_ q_).to_)), (vB ((pageS s_ row_ q_).back)), (vS ((pageS s_ row_ q_).at_)), (vB ((pageS s_ row_ q_).told))] 88, oR v90 (pageL s_ row_ q_), oS sv_ ss_] [2, 0, 1, 3, 4] rfl
      refine WL.callX rfl (T_get tb10 S_ row_ c_ x101.key (by first | assumption | omega) (M.eF fq trivial)) (CallsF.func Try.en17 rfl) ?_
      rintro _ w102 ⟨rfl, m⟩
      replace M := M.lF fq m
      clear m
      refine wM (Value.tuple #[(vI ((getL row_ x101.key).1)), (vB ((getL row_ x101.key).2))]) (wS (vI x101.val) rfl (Step.cast (congrArg (Value.int .i64) (show ((getL row_ x101.key).1 : Int) = x101.val by rw [page_get hup_ hx101])) sP) (wS (vB true) rfl (Step.cast (congrArg Value.bool (show ((getL row_ x101.key).2) = true by rw [page_get hup_ hx101])) sP) (wA (vI x101.val) (wA (vB true) (WL.nil ?_)))))
      refine W.seq' (wR (wM (vB true) (wP (vB false) (wM (vB false) (wM (vI x101.val) ?_)))))
      refine wM v90 (wM (vI ↑k_) (wS (vQ v90 k_ 2) rfl (sX k_ Try.un34 Try.el41 rfl rfl hb99) (wP (vR v90 k_ 2 1) (wS (vI x101.val) rfl (Step.loadE (k := 1) Try.sc3 (flat_ec (own_slAt (M.chunk 3 rfl).inv) hx101 hitE_len) (by decide) rfl rfl) (wS (vB false) rfl (Step.cast (congrArg Value.bool (show ((x101.val : Int) != (x101.val : Int)) = false by simp)) sP) ?_)))))
      refine wS (vB false) rfl (Step.pick (t := false) rfl rfl) (WL.nil ?_)
      refine W.cond (t := false) rfl (fun h => by cases h) (fun _ => ?_)
      refine W.skip (W.region rfl (wM acck_ (wM v90 (wM (vI ↑k_) (wS (vQ v90 k_ 2) rfl (sX k_ Try.un34 Try.el41 rfl rfl hb99) ?_)))))
      refine wP (vQ v90 k_ 2) (wS (vS x101.key) rfl (Step.loadE (k := 0) Try.sc9 (flat_ec (own_slAt (M.chunk 3 rfl).inv) hx101 hitE_len) (by decide) rfl rfl) ?_)
      refine WL.new (obj := .cells #[(vS x101.key)] 9) (fun b => .slice (some ⟨b, 0, none⟩) 1 1) M rfl (fun w => Step.make (by kernel_rfl)) (fun b103 w104 hb103 M => ?_)
      refine WL.does rfl (M.appendF (ts_ ++ ((pageL s_ row_ q_).take k_).map THit.key) ([x101.key] : List ByteArray) (sv := (Value.slice (some ⟨b103, 0, none⟩) 1 1)) 2 Try.un22 Try.el9 rfl (by decide) rfl rfl rfl (SlAt.of_blk (M.blk 0 rfl) rfl (by decide)) strE_cel (by have := hacn; simp only [maxLen, List.length_nil, List.length_cons, List.length_append]; omega) (by have := hacn; (try simp only [List.length_nil, List.length_cons, List.length_append]); omega)) ?_
      rintro v105 w106 M
      have sl107 : IsSl v105 := SlAt.isSl (own_slAt (M.chunk 2 rfl).inv)
      refine wA v105 (WL.nil (W.region rfl (wM (vI ↑k_) (wS (vI (↑k_ + 1)) rfl (Step.add rfl rfl (wrap_i64 (by omega))) (wA (vI (↑k_ + 1)) ?_)))))
      refine WL.nil ?_
      replace M := M.rechunk 2 (c' := oS v105 (ts_ ++ ((pageL s_ row_ q_).take (k_ + 1)).map THit.key)) rfl (by rw [map_snoc hx101, ← List.append_assoc])
      replace M := M.sel (L' := [oS v105 (ts_ ++ ((pageL s_ row_ q_).take (k_ + 1)).map THit.key), bk sb79 #[(vS ((pageS s_ row_ q_).frm)), (vS ((pageS s_ row_ q_).to_)), (vB ((pageS s_ row_ q_).back)), (vS ((pageS s_ row_ q_).at_)), (vB ((pageS s_ row_ q_).told))] 88, tT S_ tb10 row_ c_, oR v90 (pageL s_ row_ q_), oS sv_ ss_]) [2, 3, 1, 4, 5] rfl (by decide)
      exact ⟨_, (by omega), k_ + 1, v105, ⟨(by omega), rfl⟩, ⟨rfl, rfl, rfl, rfl, rfl, rfl, rfl, rfl, rfl, rfl, rfl, rfl, rfl, rfl, rfl, rfl, rfl, rfl, rfl, rfl, rfl, rfl, rfl, rfl, rfl, rfl⟩, M⟩
     ·
      have h98p := of_decide_eq_false h98
      refine W.exit ?_
      refine thn_exit ?_
      refine thn_exit ?_
      refine inBlk_hit ?_
      refine W.seq' (W.seq' ?_)
      obtain ⟨ts2_, hts2_⟩ : ∃ z, ts_ ++ (pageL s_ row_ q_).map THit.key = z := ⟨_, rfl⟩
      obtain ⟨s2_, hs2_⟩ : ∃ z, pageS s_ row_ q_ = z := ⟨_, rfl⟩
      rw [hts2_, hs2_] at hwp_
      have hln2_ := hwp_.len
      replace M := M.rechunk 0 (c' := oS acck_ ts2_) rfl (by rw [← hts2_, List.take_of_length_le (by omega)])
      replace M := M.rechunk 1 (c' := bk sb79 #[(vS s2_.frm), (vS s2_.to_), (vB s2_.back), (vS s2_.at_), (vB s2_.told)] 88) rfl (by rw [hs2_])
      replace M := M.sel (L' := [oS acck_ ts2_, bk sb79 #[(vS s2_.frm), (vS s2_.to_), (vB s2_.back), (vS s2_.at_), (vB s2_.told)] 88, tT S_ tb10 row_ c_, oS sv_ ss_]) [0, 1, 2, 4] rfl (by decide)
      refine W.region rfl (wM (vB (pageD s_ row_ q_)) (wM (vB (pageD s_ row_ q_)) ?_))
      rcases Bool.eq_false_or_eq_true (pageD s_ row_ q_) with h108 | h108
      ·
       rw [h108]
       refine wM (vI ↑r_) (wM v (wS (vI ↑l.length) rfl (Step.lenSl Try.un23 rfl (M.rep 1 rfl)) (wP (vB (decide ((↑r_ : Int) ≥ (↑l.length : Int)))) (wS (vB (decide ((↑r_ : Int) ≥ (↑l.length : Int)))) rfl (Step.pick (t := true) rfl rfl) (WL.nil ?_)))))
       refine W.cond (t := decide ((↑r_ : Int) ≥ (↑l.length : Int))) rfl (fun h109 => ?_) (fun h109 => ?_)
       ·
        have h109p := of_decide_eq_true h109
        refine W.exit ?_
        refine thn_exit ?_
        refine inBlk_miss (by decide) ?_
        refine thn_exit ?_
        refine thn_exit ?_
        refine inBlk_hit ?_
        refine W.seq' (W.seq' ?_)
        have hend_ := hwp_.end_ (by rw [← hs2_]; exact page_end hup_ (by simpa using h108))
        refine W.region rfl (wA (vI 1) (WL.nil (W.block ?_)))
        refine W.loop (fun kk ρ w' => ∃ (m_ : Nat), ((1 ≤ m_) ∧ kk = ts2_.length - m_) ∧ ρ.has [(1, (vS f)), (2, (vS t)), (3, (vB b)), (13, (vP tb10)), (15, sv_), (20, acck_), (27, (vI ↑m_))] ∧ Mem G (fun _ => False) w [oS acck_ ts2_, bk sb79 #[(vS s2_.frm), (vS s2_.to_), (vB s2_.back), (vS s2_.at_), (vB s2_.told)] 88, tT S_ tb10 row_ c_, oS sv_ ss_] [fS kv ks, SlAt 3 v l.length (l.flatMap actE)]  w') _ ⟨1, ⟨(Nat.le_refl _), rfl⟩, ⟨rfl, rfl, rfl, rfl, rfl, rfl, rfl, rfl, rfl⟩, M⟩ ?_
        rintro _ ρ111 w110 ⟨m_, ⟨hi112, rfl⟩, hρ, M⟩
        obtain ⟨ρ111, rfl⟩ := hρ.know
        clear hρ
        refine W.seq' (wR (wM (vI ↑m_) (wM acck_ (wS (vI ↑ts2_.length) rfl (Step.lenSl Try.un22 rfl (own_slAt (M.chunk 0 rfl).inv)) (wP (vB (decide ((↑m_ : Int) < (↑ts2_.length : Int)))) ?_)))))
        refine WL.nil ?_
        refine W.cond (t := decide ((↑m_ : Int) < (↑ts2_.length : Int))) rfl (fun h113 => ?_) (fun h113 => ?_)
        ·
         have h113p := of_decide_eq_true h113
         refine W.skip (W.seq' (W.block (W.seq' ?_)))
         obtain ⟨cap115, hb114⟩ := SlAt.base (own_slAt (M.chunk 0 rfl).inv) (by omega)
         obtain ⟨x116, hx116⟩ := elem_of_lt (xs := ts2_) (i := m_ - 1) (by omega)
         obtain ⟨x117, hx117⟩ := elem_of_lt (xs := ts2_) (i := m_) (by omega)
         have h4_ := hend_.2 m_ x116 x117 hx116 hx117 (by omega)
         refine W.drawn M [0, 1, 2, 3, 4, 5, 6, 7, 8, 9, 10, 11, 12, 13, 14, 15, 16, 17, 18, 19, 20, 21, 22, 23] [] [] _ _ (sY (sY (sY (sY sE)))) (fun _ h => h) Try.mixed (by kernel_rfl) ?_
         refine tP acck_ rfl (fun w => (Step.move rfl)) ?_
         refine tP (vI ↑m_) rfl (fun w => (Step.move rfl)) ?_
         refine tP (vI (↑(m_ - 1))) rfl (fun w => (Step.cast (congrArg (Value.int .i64) (show ((↑m_ : Int) - 1 : Int) = ↑(m_ - 1) by omega)) (Step.sub rfl rfl (wrap_i64 (by omega))))) ?_
         refine tP (vQ acck_ (m_ - 1) 1) rfl (fun w => (sX (m_ - 1) Try.un22 Try.el9 rfl rfl hb114)) ?_
         refine tR (vS x116) rfl (fun A w M => (Step.loadE (k := 0) Try.sc9 (flat_ec (own_slAt (M.chunk 1 rfl).inv) hx116 strE_len) (by decide) rfl rfl)) ?_
         refine tP acck_ rfl (fun w => (Step.move rfl)) ?_
         refine tP (vI ↑m_) rfl (fun w => (Step.move rfl)) ?_
         refine tP (vQ acck_ m_ 1) rfl (fun w => (sX m_ Try.un22 Try.el9 rfl rfl hb114)) ?_
         refine tR (vS x117) rfl (fun A w M => (Step.loadE (k := 0) Try.sc9 (flat_ec (own_slAt (M.chunk 1 rfl).inv) hx117 strE_len) (by decide) rfl rfl)) ?_
         refine tP (vB false) rfl (fun w => (Step.cast (congrArg Value.bool (show (x116.toList == x117.toList) = false by rw [sEq_dec]; simp [h4_.1])) sP)) ?_
         refine tP (vB false) rfl (fun w => (Step.move rfl)) ?_
         refine tP acck_ rfl (fun w => (Step.move rfl)) ?_
         refine tP (vI ↑m_) rfl (fun w => (Step.move rfl)) ?_
         refine tP (vI (↑(m_ - 1))) rfl (fun w => (Step.cast (congrArg (Value.int .i64) (show ((↑m_ : Int) - 1 : Int) = ↑(m_ - 1) by omega)) (Step.sub rfl rfl (wrap_i64 (by omega))))) ?_
         refine tP (vQ acck_ (m_ - 1) 1) rfl (fun w => (sX (m_ - 1) Try.un22 Try.el9 rfl rfl hb114)) ?_
         refine tR (vS x116) rfl (fun A w M => (Step.loadE (k := 0) Try.sc9 (flat_ec (own_slAt (M.chunk 1 rfl).inv) hx116 strE_len) (by decide) rfl rfl)) ?_
         refine tP acck_ rfl (fun w => (Step.move rfl)) ?_
         refine tP (vI ↑m_) rfl (fun w => (Step.move rfl)) ?_
         refine tP (vQ acck_ m_ 1) rfl (fun w => (sX m_ Try.un22 Try.el9 rfl rfl hb114)) ?_
         refine tR (vS x117) rfl (fun A w M => (Step.loadE (k := 0) Try.sc9 (flat_ec (own_slAt (M.chunk 1 rfl).inv) hx117 strE_len) (by decide) rfl rfl)) ?_
         refine tP (vB (!(sLt x116 x117 || x116.toList == x117.toList))) rfl (fun w => sP) ?_
         refine tP (vB b) rfl (fun w => (Step.move rfl)) ?_
         refine tP (vB false) rfl (fun w => (Step.cast (congrArg Value.bool (show (!((!(sLt x116 x117 || x116.toList == x117.toList)) == b)) = false by rw [sGt, h4_.2]; simp)) sP)) ?_
         refine tP (vB false) rfl (fun w => (Step.pick (t := false) rfl rfl)) ?_
         refine TW.done (fun w118 M => ?_)
         refine W.cond (t := false) rfl (fun h => by cases h) (fun _ => ?_)
         refine W.skip (W.region rfl (wM (vI ↑m_) (wS (vI (↑m_ + 1)) rfl (Step.add rfl rfl (wrap_i64 (by omega))) (wA (vI (↑m_ + 1)) (WL.nil ?_)))))
         exact ⟨_, (by omega), m_ + 1, ⟨(by omega), rfl⟩, ⟨rfl, rfl, rfl, rfl, rfl, rfl, rfl, rfl, rfl⟩, M⟩
        ·
         have h113p := of_decide_eq_false h113
         refine W.exit ?_
         refine thn_exit ?_
         refine thn_exit ?_
         refine inBlk_hit ?_
         refine W.seq' (wR (wA (vI 0) (WL.nil (W.block ?_))))
         refine W.loop (fun kk ρ w' => ∃ (j_ : Nat), ((j_ ≤ ss_.length) ∧ kk = ss_.length - j_) ∧ ρ.has [(1, (vS f)), (2, (vS t)), (13, (vP tb10)), (15, sv_), (20, acck_), (28, (vI ↑j_))] ∧ Mem G (fun _ => False) w [oS acck_ ts2_, bk sb79 #[(vS s2_.frm), (vS s2_.to_), (vB s2_.back), (vS s2_.at_), (vB s2_.told)] 88, tT S_ tb10 row_ c_, oS sv_ ss_] [fS kv ks, SlAt 3 v l.length (l.flatMap actE)]  w') _ ⟨0, ⟨(Nat.zero_le _), rfl⟩, ⟨rfl, rfl, rfl, rfl, rfl, rfl, rfl, rfl⟩, M⟩ ?_
         rintro _ ρ120 w119 ⟨j_, ⟨hi121, rfl⟩, hρ, M⟩
         obtain ⟨ρ120, rfl⟩ := hρ.know
         clear hρ
         refine W.seq' (wR (wM (vI ↑j_) (wM sv_ (wS (vI ↑ss_.length) rfl (Step.lenSl Try.un22 rfl (own_slAt (M.chunk 3 rfl).inv)) (wP (vB (decide ((↑j_ : Int) < (↑ss_.length : Int)))) ?_)))))
         refine WL.nil ?_
         refine W.cond (t := decide ((↑j_ : Int) < (↑ss_.length : Int))) rfl (fun h122 => ?_) (fun h122 => ?_)
         ·
          have h122p := of_decide_eq_true h122
          refine W.skip (W.seq' (W.block (wR (wA (vB false) (WL.nil ?_)))))
          refine W.seq' (W.seq' ?_)
          obtain ⟨y_, hy_⟩ := elem_of_lt (xs := ss_) (i := j_) (by omega)
          refine W.region rfl (wA (vI 0) (WL.nil (W.block ?_)))
          refine W.loop (fun kk ρ w' => ∃ (e_ : Nat) (th_ : Bool), ((e_ ≤ ts2_.length) ∧ (th_ = false → ∀ (j : Nat) u, j < e_ → ts2_[j]? = some u → u ≠ y_) ∧ kk = ts2_.length - e_) ∧ ρ.has [(1, (vS f)), (2, (vS t)), (13, (vP tb10)), (15, sv_), (20, acck_), (28, (vI ↑j_)), (29, (vB th_)), (30, (vI ↑e_)), (217, (vI ↑j_)), (218, sv_), (219, (vI ↑ss_.length)), (220, (vB (decide ((↑j_ : Int) < (↑ss_.length : Int)))))] ∧ Mem G (fun _ => False) w [oS acck_ ts2_, bk sb79 #[(vS s2_.frm), (vS s2_.to_), (vB s2_.back), (vS s2_.at_), (vB s2_.told)] 88, tT S_ tb10 row_ c_, oS sv_ ss_] [fS kv ks, SlAt 3 v l.length (l.flatMap actE)]  w') _ ⟨0, false, ⟨(Nat.zero_le _), (fun _ => nth_zero), rfl⟩, ⟨rfl, rfl, rfl, rfl, rfl, rfl, rfl, rfl, rfl, rfl, rfl, rfl, rfl, rfl⟩, M⟩ ?_
          rintro _ ρ124 w123 ⟨e_, th_, ⟨hi125, hi126, rfl⟩, hρ, M⟩
          obtain ⟨ρ124, rfl⟩ := hρ.know
          clear hρ
          have hth_ : th_ = false → ∀ (j : Nat) u, j < e_ → ts2_[j]? = some u → u ≠ y_ := hi126
          refine W.seq' (wR (wM (vI ↑e_) (wM acck_ (wS (vI ↑ts2_.length) rfl (Step.lenSl Try.un22 rfl (own_slAt (M.chunk 0 rfl).inv)) (wP (vB (decide ((↑e_ : Int) < (↑ts2_.length : Int)))) ?_)))))
          refine WL.nil ?_
          refine W.cond (t := decide ((↑e_ : Int) < (↑ts2_.length : Int))) rfl (fun h127 => ?_) (fun h127 => ?_)
          ·
           have h127p := of_decide_eq_true h127
           refine W.skip (W.seq' (W.block ?_))
           rcases Bool.eq_false_or_eq_true (th_) with h128 | h128
           ·
            refine W.drawn M [0, 1, 2, 3, 4, 5, 6, 7, 8, 9, 10, 11, 12] [] [] _ _ (sY (sY (sY (sY sE)))) (fun _ h => h) Try.mixed (by kernel_rfl) ?_
            refine tP (vB true) rfl (fun w => (Step.cast (congrArg Value.bool h128) (Step.move rfl))) ?_
            refine tP (vB true) rfl (fun w => (Step.move rfl)) ?_
            refine TW.skip rfl rfl ?_
            refine TW.skip rfl rfl ?_
            refine TW.skip rfl rfl ?_
            refine TW.skip rfl rfl ?_
            refine TW.skip rfl rfl ?_
            refine TW.skip rfl rfl ?_
            refine TW.skip rfl rfl ?_
            refine TW.skip rfl rfl ?_
            refine TW.skip rfl rfl ?_
            refine tP (vB true) rfl (fun w => (Step.pick (t := true) rfl rfl)) ?_
            refine tP (vB true) rfl (fun w => (Step.assign rfl)) ?_
            refine TW.done (fun w129 M => ?_)
            refine W.region rfl (wM (vI ↑e_) (wS (vI (↑e_ + 1)) rfl (Step.add rfl rfl (wrap_i64 (by omega))) (wA (vI (↑e_ + 1)) (WL.nil ?_))))
            exact ⟨_, (by omega), e_ + 1, true, ⟨(by omega), (fun h_ => by cases h_), rfl⟩, ⟨rfl, rfl, rfl, rfl, rfl, rfl, rfl, rfl, rfl, rfl, rfl, rfl, rfl, rfl⟩, M⟩
           ·
            obtain ⟨cap131, hb130⟩ := SlAt.base (own_slAt (M.chunk 0 rfl).inv) (by omega)
            obtain ⟨x132, hx132⟩ := elem_of_lt (xs := ts2_) (i := e_) (by omega)
            obtain ⟨cap134, hb133⟩ := SlAt.base (own_slAt (M.chunk 3 rfl).inv) (by omega)
            refine W.drawn M [0, 1, 2, 3, 4, 5, 6, 7, 8, 9, 10, 11, 12] [] [] _ _ (sY (sY (sY (sY sE)))) (fun _ h => h) Try.mixed (by kernel_rfl) ?_
            refine tP (vB false) rfl (fun w => (Step.cast (congrArg Value.bool h128) (Step.move rfl))) ?_
            refine tP (vB false) rfl (fun w => (Step.move rfl)) ?_
            refine tP acck_ rfl (fun w => (Step.move rfl)) ?_
            refine tP (vI ↑e_) rfl (fun w => (Step.move rfl)) ?_
            refine tP (vQ acck_ e_ 1) rfl (fun w => (sX e_ Try.un22 Try.el9 rfl rfl hb130)) ?_
            refine tR (vS x132) rfl (fun A w M => (Step.loadE (k := 0) Try.sc9 (flat_ec (own_slAt (M.chunk 1 rfl).inv) hx132 strE_len) (by decide) rfl rfl)) ?_
            refine tP sv_ rfl (fun w => (Step.move rfl)) ?_
            refine tP (vI ↑j_) rfl (fun w => (Step.move rfl)) ?_
            refine tP (vQ sv_ j_ 1) rfl (fun w => (sX j_ Try.un22 Try.el9 rfl rfl hb133)) ?_
            refine tR (vS y_) rfl (fun A w M => (Step.loadE (k := 0) Try.sc9 (flat_ec (own_slAt (M.chunk 4 rfl).inv) hy_ strE_len) (by decide) rfl rfl)) ?_
            refine tP (vB (x132.toList == y_.toList)) rfl (fun w => sP) ?_
            refine tP (vB (x132.toList == y_.toList)) rfl (fun w => (Step.pick (t := false) rfl rfl)) ?_
            refine tP (vB (x132.toList == y_.toList)) rfl (fun w => (Step.assign rfl)) ?_
            refine TW.done (fun w135 M => ?_)
            refine W.region rfl (wM (vI ↑e_) (wS (vI (↑e_ + 1)) rfl (Step.add rfl rfl (wrap_i64 (by omega))) (wA (vI (↑e_ + 1)) (WL.nil ?_))))
            exact ⟨_, (by omega), e_ + 1, (x132.toList == y_.toList), ⟨(by omega), (fun h_ => nth_step (hth_ (by simpa using h128)) hx132 (by rw [sEq_dec] at h_; simpa using h_)), rfl⟩, ⟨rfl, rfl, rfl, rfl, rfl, rfl, rfl, rfl, rfl, rfl, rfl, rfl, rfl, rfl⟩, M⟩
          ·
           have h127p := of_decide_eq_false h127
           refine W.exit ?_
           refine thn_exit ?_
           refine thn_exit ?_
           refine inBlk_hit ?_
           refine wR (wM (vB th_) (wP (vB !th_) (WL.nil ?_)))
           refine W.cond (t := !th_) rfl (fun h136 => ?_) (fun h136 => ?_)
           ·
            exact absurd (hend_.1 y_ (List.mem_of_getElem? hy_)) (nth_not (hth_ (by simpa using h136)) (by omega))
           ·
            refine W.skip (W.region rfl (wM (vI ↑j_) (wS (vI (↑j_ + 1)) rfl (Step.add rfl rfl (wrap_i64 (by omega))) (wA (vI (↑j_ + 1)) (WL.nil ?_)))))
            exact ⟨_, (by omega), j_ + 1, ⟨(by omega), rfl⟩, ⟨rfl, rfl, rfl, rfl, rfl, rfl, rfl, rfl⟩, M⟩
         ·
          have h122p := of_decide_eq_false h122
          refine W.exit ?_
          refine thn_exit ?_
          refine thn_exit ?_
          refine inBlk_hit ?_
          refine W.seq' ?_
          obtain ⟨R_, hR_⟩ : ∃ z, restR (⟨f, t, false, sZ, false⟩ : Scn) row_ = z := ⟨_, rfl⟩
          obtain ⟨hpf_, hpb_⟩ := page_100 (row := row_) f t (by omega)
          rw [hR_] at hpf_ hpb_
          have hRl_ : R_.length ≤ row_.length := by rw [← hR_]; exact rest_le
          have hRr_ : R_.reverse.length = R_.length := List.length_reverse ..
          refine W.region rfl (wM (vS f) (wM (vS t) ?_))
          refine WL.callX rfl (sc_new f t false (M.enterW0 trivial)) (CallsF.func Try.en14 rfl) ?_
          rintro _ w138 ⟨sb137, rfl, m⟩
          replace M := M.leaveW0 m
          clear m
          refine wM (vP tb10) ?_
          have fq := M.frm [bk sb137 #[(vS ((⟨f, t, false, sZ, false⟩ : Scn).frm)), (vS ((⟨f, t, false, sZ, false⟩ : Scn).to_)), (vB ((⟨f, t, false, sZ, false⟩ : Scn).back)), (vS ((⟨f, t, false, sZ, false⟩ : Scn).at_)), (vB ((⟨f, t, false, sZ, false⟩ : Scn).told))] 88, tT S_ tb10 row_ c_] [oS acck_ ts2_, bk sb79 #[(vS s2_.frm), (vS s2_.to_), (vB s2_.back), (vS s2_.at_), (vB s2_.told)] 88, oS sv_ ss_] [0, 3, 1, 2, 4] rfl
          refine WL.callX rfl (sc_page sb137 (⟨f, t, false, sZ, false⟩ : Scn) tb10 S_ row_ c_ 100 (by first | assumption | omega) (M.eF fq trivial)) (CallsF.func Try.en15 rfl) ?_
          rintro _ w140 ⟨v139, rfl, m⟩
          replace M := M.lF fq m
          clear m
          have sl141 : IsSl v139 := SlAt.isSl (own_slAt (Mem.chunk M 2 rfl).inv)
          have hle142 := SlAt.le' (own_slAt (Mem.chunk M 2 rfl).inv)
          replace M := M.rechunk 2 (c' := oR v139 R_) rfl (by rw [show pageL (⟨f, t, false, sZ, false⟩ : Scn) row_ 100 = R_ from hpf_])
          refine wM (Value.tuple #[v139, (vB (pageD (⟨f, t, false, sZ, false⟩ : Scn) row_ 100))]) (wP v139 (wP (vB (pageD (⟨f, t, false, sZ, false⟩ : Scn) row_ 100)) (wA v139 (wA (vB (pageD (⟨f, t, false, sZ, false⟩ : Scn) row_ 100)) (WL.nil ?_)))))
          refine W.seq' ?_
          replace M := M.loseI 0
          refine W.region rfl (wM (vS f) (wM (vS t) ?_))
          refine WL.callX rfl (sc_new f t true (M.enterW0 trivial)) (CallsF.func Try.en14 rfl) ?_
          rintro _ w144 ⟨sb143, rfl, m⟩
          replace M := M.leaveW0 m
          clear m
          refine wM (vP tb10) ?_
          have fq := M.frm [bk sb143 #[(vS ((⟨f, t, true, sZ, false⟩ : Scn).frm)), (vS ((⟨f, t, true, sZ, false⟩ : Scn).to_)), (vB ((⟨f, t, true, sZ, false⟩ : Scn).back)), (vS ((⟨f, t, true, sZ, false⟩ : Scn).at_)), (vB ((⟨f, t, true, sZ, false⟩ : Scn).told))] 88, tT S_ tb10 row_ c_] [oR v139 R_, oS acck_ ts2_, bk sb79 #[(vS s2_.frm), (vS s2_.to_), (vB s2_.back), (vS s2_.at_), (vB s2_.told)] 88, oS sv_ ss_] [0, 1, 2, 3, 4, 5] rfl
          refine WL.callX rfl (sc_page sb143 (⟨f, t, true, sZ, false⟩ : Scn) tb10 S_ row_ c_ 100 (by first | assumption | omega) (M.eF fq trivial)) (CallsF.func Try.en15 rfl) ?_
          rintro _ w146 ⟨v145, rfl, m⟩
          replace M := M.lF fq m
          clear m
          have sl147 : IsSl v145 := SlAt.isSl (own_slAt (Mem.chunk M 2 rfl).inv)
          have hle148 := SlAt.le' (own_slAt (Mem.chunk M 2 rfl).inv)
          replace M := M.rechunk 2 (c' := oR v145 R_.reverse) rfl (by rw [show pageL (⟨f, t, true, sZ, false⟩ : Scn) row_ 100 = R_.reverse from hpb_])
          refine wM (Value.tuple #[v145, (vB (pageD (⟨f, t, true, sZ, false⟩ : Scn) row_ 100))]) (wP v145 (wP (vB (pageD (⟨f, t, true, sZ, false⟩ : Scn) row_ 100)) (wA v145 (wA (vB (pageD (⟨f, t, true, sZ, false⟩ : Scn) row_ 100)) (WL.nil ?_)))))
          refine W.seq' (W.seq' ?_)
          replace M := M.loseI 0
          refine W.region rfl (wM v139 (wS (vI ↑R_.length) rfl (Step.lenSl Try.un34 rfl (own_slAt (M.chunk 2 rfl).inv)) (wM v145 (wS (vI ↑R_.length) rfl (Step.cast (congrArg (Value.int .i64) (show (↑R_.reverse.length : Int) = ↑R_.length by omega)) (Step.lenSl Try.un34 rfl (own_slAt (M.chunk 1 rfl).inv))) (wS (vB false) rfl (Step.cast (congrArg Value.bool (show ((↑R_.length : Int) != (↑R_.length : Int)) = false by simp)) sP) ?_)))))
          refine wM (vB false) (wM v139 (wS (vI ↑R_.length) rfl (Step.lenSl Try.un34 rfl (own_slAt (M.chunk 2 rfl).inv)) (wM (vP tb10) (wM (vS f) (wM (vS t) ?_)))))
          have fq := M.frm [tT S_ tb10 row_ c_] [oR v145 R_.reverse, oR v139 R_, oS acck_ ts2_, bk sb79 #[(vS s2_.frm), (vS s2_.to_), (vB s2_.back), (vS s2_.at_), (vB s2_.told)] 88, oS sv_ ss_] [0, 1, 2, 3, 4, 5] rfl
          refine WL.callX rfl (sc_count tb10 S_ row_ c_ f t (by first | assumption | omega) (M.eF fq trivial)) (CallsF.func Try.en20 rfl) ?_
          rintro _ w149 ⟨rfl, m⟩
          replace M := M.lF fq m
          clear m
          rw [(show (↑(countR row_ f t) : Int) = ↑R_.length by rw [← hR_]; rfl)]
          refine wS (vB false) rfl (Step.cast (congrArg Value.bool (show ((↑R_.length : Int) != (↑R_.length : Int)) = false by simp)) sP) (wS (vB false) rfl (Step.pick (t := false) rfl rfl) (WL.nil ?_))
          refine W.cond (t := false) rfl (fun h => by cases h) (fun _ => ?_)
          refine W.skip (W.seq' (wR (wA (vI 0) (WL.nil (W.block ?_)))))
          refine W.loop (fun kk ρ w' => ∃ (z_ : Nat), ((z_ ≤ R_.length) ∧ kk = R_.length - z_) ∧ ρ.has [(31, v139), (33, v145), (35, (vI ↑z_))] ∧ Mem G (fun _ => False) w [tT S_ tb10 row_ c_, oR v145 R_.reverse, oR v139 R_, oS acck_ ts2_, bk sb79 #[(vS s2_.frm), (vS s2_.to_), (vB s2_.back), (vS s2_.at_), (vB s2_.told)] 88, oS sv_ ss_] [fS kv ks, SlAt 3 v l.length (l.flatMap actE)]  w') _ ⟨0, ⟨(Nat.zero_le _), rfl⟩, ⟨rfl, rfl, rfl, rfl, rfl⟩, M⟩ ?_
          rintro _ ρ151 w150 ⟨z_, ⟨hi152, rfl⟩, hρ, M⟩
          obtain ⟨ρ151, rfl⟩ := hρ.know
          clear hρ
          refine W.seq' (wR (wM (vI ↑z_) (wM v139 (wS (vI ↑R_.length) rfl (Step.lenSl Try.un34 rfl (own_slAt (M.chunk 2 rfl).inv)) (wP (vB (decide ((↑z_ : Int) < (↑R_.length : Int)))) ?_)))))
          refine WL.nil ?_
          refine W.cond (t := decide ((↑z_ : Int) < (↑R_.length : Int))) rfl (fun h153 => ?_) (fun h153 => ?_)
          ·
           have h153p := of_decide_eq_true h153
           refine W.skip (W.seq' (W.block (W.seq' ?_)))
           obtain ⟨cap155, hb154⟩ := SlAt.base (own_slAt (M.chunk 2 rfl).inv) (by omega)
           obtain ⟨x156, hx156⟩ := elem_of_lt (xs := R_) (i := z_) (by omega)
           obtain ⟨cap158, hb157⟩ := SlAt.base (own_slAt (M.chunk 1 rfl).inv) (by omega)
           obtain ⟨x159, hx159⟩ := elem_of_lt (xs := R_.reverse) (i := R_.length - 1 - z_) (by omega)
           have hxy_ : x156 = x159 := Option.some.inj (hx156.symm.trans ((rev_at (by omega)).symm.trans hx159))
           refine W.drawn M [0, 1, 2, 3, 4, 5, 6, 7, 8, 9, 10, 11, 12] [] [] _ _ (sY (sY (sY (sY (sY (sY sE)))))) (fun _ h => h) Try.mixed (by kernel_rfl) ?_
           refine tP v139 rfl (fun w => (Step.move rfl)) ?_
           refine tP (vI ↑z_) rfl (fun w => (Step.move rfl)) ?_
           refine tP (vQ v139 z_ 2) rfl (fun w => (sX z_ Try.un34 Try.el41 rfl rfl hb154)) ?_
           refine tR (Value.agg #[(vS x156.key), (vI x156.val)]) rfl (fun A w M => (Step.loadEN (k := 0) (cs' := [(vS x156.key), (vI x156.val)]) Try.ag41 (flat_ec (own_slAt (M.chunk 3 rfl).inv) hx156 hitE_len) (by decide) rfl rfl rfl)) ?_
           refine tP v145 rfl (fun w => (Step.move rfl)) ?_
           refine tP v145 rfl (fun w => (Step.move rfl)) ?_
           refine tR (vI ↑R_.length) rfl (fun A w M => (Step.cast (congrArg (Value.int .i64) (show (↑R_.reverse.length : Int) = ↑R_.length by omega)) (Step.lenSl Try.un34 rfl (own_slAt (M.chunk 2 rfl).inv)))) ?_
           refine tP (vI ((↑R_.length : Int) - 1)) rfl (fun w => (Step.sub rfl rfl (wrap_i64 (by omega)))) ?_
           refine tP (vI ↑z_) rfl (fun w => (Step.move rfl)) ?_
           refine tP (vI (↑(R_.length - 1 - z_))) rfl (fun w => (Step.cast (congrArg (Value.int .i64) (show (((↑R_.length : Int) - 1 : Int) - ↑z_ : Int) = ↑(R_.length - 1 - z_) by omega)) (Step.sub rfl rfl (wrap_i64 (by omega))))) ?_
           refine tP (vQ v145 (R_.length - 1 - z_) 2) rfl (fun w => (sX (R_.length - 1 - z_) Try.un34 Try.el41 rfl rfl hb157)) ?_
           refine tR (Value.agg #[(vS x159.key), (vI x159.val)]) rfl (fun A w M => (Step.loadEN (k := 0) (cs' := [(vS x159.key), (vI x159.val)]) Try.ag41 (flat_ec (own_slAt (M.chunk 2 rfl).inv) hx159 hitE_len) (by decide) rfl rfl rfl)) ?_
           refine tP (vB false) rfl (fun w => (Step.cast (congrArg Value.bool (show (!decide (x156 = x159)) = false by simp [hxy_])) (Step.cast (congrArg (fun z => Value.bool (!z)) (hit_eqB x156 x159)) (Step.neqAgg Try.eg41 rfl rfl rfl (Try.eq41 9998 x156.key (x156.val : Int) x159.key (x159.val : Int)))))) ?_
           refine TW.done (fun w160 M => ?_)
           refine W.cond (t := false) rfl (fun h => by cases h) (fun _ => ?_)
           refine W.skip (W.region rfl (wM (vI ↑z_) (wS (vI (↑z_ + 1)) rfl (Step.add rfl rfl (wrap_i64 (by omega))) (wA (vI (↑z_ + 1)) (WL.nil ?_)))))
           exact ⟨_, (by omega), z_ + 1, ⟨(by omega), rfl⟩, ⟨rfl, rfl, rfl, rfl, rfl⟩, M⟩
          ·
           have h153p := of_decide_eq_false h153
           refine W.exit ?_
           refine thn_exit ?_
           refine thn_exit ?_
           refine inBlk_hit ?_
           refine wR ?_
           refine WL.callX rfl (l13_works  (M.enterW0 trivial)) (CallsF.func Try.en12 rfl) ?_
           rintro _ w161 ⟨rfl, m⟩
           replace M := M.leaveW0 m
           clear m
           refine wA (vB true) (WL.nil ?_)
           refine W.ret ?_
           refine ⟨.inl rfl, (vB true), ?_, ?_⟩
           · exact ⟨rfl, (Res.r1 (show RV _ _ _ (.tmp 12) (vB true) from by exact rfl))⟩
           refine ⟨?_, M.close [] rfl (by decide) trivial⟩
           rfl
       ·
        have h109p := of_decide_eq_false h109
        refine W.skip (wR (wM (vI ↑r_) (wM v (wS (vI ↑l.length) rfl (Step.lenSl Try.un23 rfl (M.rep 1 rfl)) (wP (vB (decide ((↑r_ : Int) < (↑l.length : Int)))) ?_)))))
        refine WL.nil ?_
        refine W.cond (t := decide ((↑r_ : Int) < (↑l.length : Int))) rfl (fun h162 => ?_) (fun h162 => ?_)
        ·
         have h162p := of_decide_eq_true h162
         refine wR (wM v (wM (vI ↑r_) ?_))
         obtain ⟨cap164, hb163⟩ := SlAt.base (M.rep 1 rfl) (by omega)
         refine wS (vQ v r_ 3) rfl (sX r_ Try.un23 Try.el31 rfl rfl hb163) (wP (vQ v r_ 3) ?_)
         obtain ⟨x165, hx165⟩ := elem_of_lt (xs := l) (i := r_) (by omega)
         refine wS (vI x165.do_) rfl (Step.loadE (k := 0) Try.sc3 (flat_ec (M.rep 1 rfl) hx165 actE_len) (by decide) rfl rfl) (wS (vI (x165.do_.tmod 2)) rfl (Step.rem rfl rfl (by omega)) (wP (vB ((x165.do_.tmod 2 : Int) == (0 : Int))) (WL.nil ?_)))
         refine W.cond (t := (x165.do_.tmod 2 : Int) == (0 : Int)) rfl (fun h166 => ?_) (fun h166 => ?_)
         ·
          have h166p : (x165.do_.tmod 2 : Int) = (0 : Int) := by simpa using h166
          refine W.region rfl (wM (vP tb10) (wM v (wM (vI ↑r_) (wS (vQ v r_ 3) rfl (sX r_ Try.un23 Try.el31 rfl rfl hb163) (wP (vR v r_ 3 1) ?_)))))
          refine wS (vS x165.k) rfl (Step.loadE (k := 1) Try.sc9 (flat_ec (M.rep 1 rfl) hx165 actE_len) (by decide) rfl rfl) (wM (vI ↑r_) ?_)
          have fq := M.frm [tT S_ tb10 row_ c_] [oS acck_ ts2_, bk sb79 #[(vS s2_.frm), (vS s2_.to_), (vB s2_.back), (vS s2_.at_), (vB s2_.told)] 88, oS sv_ ss_] [2, 0, 1, 3] rfl
          refine WL.callX rfl (T_put tb10 S_ row_ c_ x165.k ↑r_ (by first | assumption | omega) (M.eF fq trivial)) (CallsF.func Try.en18 rfl) ?_
          rintro _ w168 ⟨S167, rfl, m⟩
          replace M := M.lF fq m
          clear m
          refine WL.nil (W.region rfl (wM (vI ↑r_) (wS (vI (↑r_ + 1)) rfl (Step.add rfl rfl (wrap_i64 (by omega))) (wA (vI (↑r_ + 1)) (WL.nil ?_)))))
          replace M := M.sel (L' := [tT S167 tb10 (putR row_ (⟨x165.k, ↑r_⟩ : THit)) (c_ + 1), bk sb79 #[(vS s2_.frm), (vS s2_.to_), (vB s2_.back), (vS s2_.at_), (vB s2_.told)] 88, oS acck_ ts2_, oS sv_ ss_]) [0, 2, 1, 3] rfl (by decide)
          exact ⟨_, (by omega), r_ + 1, (putR row_ (⟨x165.k, ↑r_⟩ : THit)), s2_, ts2_, acck_, S167, (c_ + 1), ⟨(by omega), (by omega), (by omega), (hwp_.put hup_ hst_ hx165 (by omega)), rfl⟩, ⟨rfl, rfl, rfl, rfl, rfl, rfl, rfl, rfl, rfl, rfl, rfl, rfl⟩, M⟩
         ·
          have h166p : ¬ (x165.do_.tmod 2 : Int) = (0 : Int) := by simpa using h166
          refine W.region rfl (wM (vP tb10) (wM v (wM (vI ↑r_) (wS (vQ v r_ 3) rfl (sX r_ Try.un23 Try.el31 rfl rfl hb163) (wP (vR v r_ 3 1) ?_)))))
          refine wS (vS x165.k) rfl (Step.loadE (k := 1) Try.sc9 (flat_ec (M.rep 1 rfl) hx165 actE_len) (by decide) rfl rfl) ?_
          have fq := M.frm [tT S_ tb10 row_ c_] [oS acck_ ts2_, bk sb79 #[(vS s2_.frm), (vS s2_.to_), (vB s2_.back), (vS s2_.at_), (vB s2_.told)] 88, oS sv_ ss_] [2, 0, 1, 3] rfl
          refine WL.callX rfl (T_delete tb10 S_ row_ c_ x165.k (by first | assumption | omega) (M.eF fq trivial)) (CallsF.func Try.en19 rfl) ?_
          rintro _ w170 ⟨S169, rfl, m⟩
          replace M := M.lF fq m
          clear m
          refine WL.nil (W.region rfl (wM (vI ↑r_) (wS (vI (↑r_ + 1)) rfl (Step.add rfl rfl (wrap_i64 (by omega))) (wA (vI (↑r_ + 1)) (WL.nil ?_)))))
          replace M := M.sel (L' := [tT S169 tb10 (delL row_ x165.k) c_, bk sb79 #[(vS s2_.frm), (vS s2_.to_), (vB s2_.back), (vS s2_.at_), (vB s2_.told)] 88, oS acck_ ts2_, oS sv_ ss_]) [0, 2, 1, 3] rfl (by decide)
          exact ⟨_, (by omega), r_ + 1, (delL row_ x165.k), s2_, ts2_, acck_, S169, c_, ⟨(by omega), (by omega), (by omega), (hwp_.del hst_ hx165 (by omega)), rfl⟩, ⟨rfl, rfl, rfl, rfl, rfl, rfl, rfl, rfl, rfl, rfl, rfl, rfl⟩, M⟩
        ·
         have h162p := of_decide_eq_false h162
         omega
      ·
       rw [h108]
       refine WL.pass rfl ?_
       refine WL.pass rfl ?_
       refine WL.pass rfl ?_
       refine WL.pass rfl ?_
       refine wS (vB false) rfl (Step.pick (t := false) rfl rfl) (WL.nil ?_)
       refine W.cond (t := false) rfl (fun h => by cases h) (fun _ => ?_)
       refine W.skip (wR (wM (vI ↑r_) (wM v (wS (vI ↑l.length) rfl (Step.lenSl Try.un23 rfl (M.rep 1 rfl)) (wP (vB (decide ((↑r_ : Int) < (↑l.length : Int)))) ?_)))))
       refine WL.nil ?_
       refine W.cond (t := decide ((↑r_ : Int) < (↑l.length : Int))) rfl (fun h171 => ?_) (fun h171 => ?_)
       ·
        have h171p := of_decide_eq_true h171
        refine wR (wM v (wM (vI ↑r_) ?_))
        obtain ⟨cap173, hb172⟩ := SlAt.base (M.rep 1 rfl) (by omega)
        refine wS (vQ v r_ 3) rfl (sX r_ Try.un23 Try.el31 rfl rfl hb172) (wP (vQ v r_ 3) ?_)
        obtain ⟨x174, hx174⟩ := elem_of_lt (xs := l) (i := r_) (by omega)
        refine wS (vI x174.do_) rfl (Step.loadE (k := 0) Try.sc3 (flat_ec (M.rep 1 rfl) hx174 actE_len) (by decide) rfl rfl) (wS (vI (x174.do_.tmod 2)) rfl (Step.rem rfl rfl (by omega)) (wP (vB ((x174.do_.tmod 2 : Int) == (0 : Int))) (WL.nil ?_)))
        refine W.cond (t := (x174.do_.tmod 2 : Int) == (0 : Int)) rfl (fun h175 => ?_) (fun h175 => ?_)
        ·
         have h175p : (x174.do_.tmod 2 : Int) = (0 : Int) := by simpa using h175
         refine W.region rfl (wM (vP tb10) (wM v (wM (vI ↑r_) (wS (vQ v r_ 3) rfl (sX r_ Try.un23 Try.el31 rfl rfl hb172) (wP (vR v r_ 3 1) ?_)))))
         refine wS (vS x174.k) rfl (Step.loadE (k := 1) Try.sc9 (flat_ec (M.rep 1 rfl) hx174 actE_len) (by decide) rfl rfl) (wM (vI ↑r_) ?_)
         have fq := M.frm [tT S_ tb10 row_ c_] [oS acck_ ts2_, bk sb79 #[(vS s2_.frm), (vS s2_.to_), (vB s2_.back), (vS s2_.at_), (vB s2_.told)] 88, oS sv_ ss_] [2, 0, 1, 3] rfl
         refine WL.callX rfl (T_put tb10 S_ row_ c_ x174.k ↑r_ (by first | assumption | omega) (M.eF fq trivial)) (CallsF.func Try.en18 rfl) ?_
         rintro _ w177 ⟨S176, rfl, m⟩
         replace M := M.lF fq m
         clear m
         refine WL.nil (W.region rfl (wM (vI ↑r_) (wS (vI (↑r_ + 1)) rfl (Step.add rfl rfl (wrap_i64 (by omega))) (wA (vI (↑r_ + 1)) (WL.nil ?_)))))
         replace M := M.sel (L' := [tT S176 tb10 (putR row_ (⟨x174.k, ↑r_⟩ : THit)) (c_ + 1), bk sb79 #[(vS s2_.frm), (vS s2_.to_), (vB s2_.back), (vS s2_.at_), (vB s2_.told)] 88, oS acck_ ts2_, oS sv_ ss_]) [0, 2, 1, 3] rfl (by decide)
         exact ⟨_, (by omega), r_ + 1, (putR row_ (⟨x174.k, ↑r_⟩ : THit)), s2_, ts2_, acck_, S176, (c_ + 1), ⟨(by omega), (by omega), (by omega), (hwp_.put hup_ hst_ hx174 (by omega)), rfl⟩, ⟨rfl, rfl, rfl, rfl, rfl, rfl, rfl, rfl, rfl, rfl, rfl, rfl⟩, M⟩
        ·
         have h175p : ¬ (x174.do_.tmod 2 : Int) = (0 : Int) := by simpa using h175
         refine W.region rfl (wM (vP tb10) (wM v (wM (vI ↑r_) (wS (vQ v r_ 3) rfl (sX r_ Try.un23 Try.el31 rfl rfl hb172) (wP (vR v r_ 3 1) ?_)))))
         refine wS (vS x174.k) rfl (Step.loadE (k := 1) Try.sc9 (flat_ec (M.rep 1 rfl) hx174 actE_len) (by decide) rfl rfl) ?_
         have fq := M.frm [tT S_ tb10 row_ c_] [oS acck_ ts2_, bk sb79 #[(vS s2_.frm), (vS s2_.to_), (vB s2_.back), (vS s2_.at_), (vB s2_.told)] 88, oS sv_ ss_] [2, 0, 1, 3] rfl
         refine WL.callX rfl (T_delete tb10 S_ row_ c_ x174.k (by first | assumption | omega) (M.eF fq trivial)) (CallsF.func Try.en19 rfl) ?_
         rintro _ w179 ⟨S178, rfl, m⟩
         replace M := M.lF fq m
         clear m
         refine WL.nil (W.region rfl (wM (vI ↑r_) (wS (vI (↑r_ + 1)) rfl (Step.add rfl rfl (wrap_i64 (by omega))) (wA (vI (↑r_ + 1)) (WL.nil ?_)))))
         replace M := M.sel (L' := [tT S178 tb10 (delL row_ x174.k) c_, bk sb79 #[(vS s2_.frm), (vS s2_.to_), (vB s2_.back), (vS s2_.at_), (vB s2_.told)] 88, oS acck_ ts2_, oS sv_ ss_]) [0, 2, 1, 3] rfl (by decide)
         exact ⟨_, (by omega), r_ + 1, (delL row_ x174.k), s2_, ts2_, acck_, S178, c_, ⟨(by omega), (by omega), (by omega), (hwp_.del hst_ hx174 (by omega)), rfl⟩, ⟨rfl, rfl, rfl, rfl, rfl, rfl, rfl, rfl, rfl, rfl, rfl, rfl⟩, M⟩
       ·
        have h171p := of_decide_eq_false h171
        refine W.skip (W.region rfl (wM (vI ↑r_) (wS (vI (↑r_ + 1)) rfl (Step.add rfl rfl (wrap_i64 (by omega))) (wA (vI (↑r_ + 1)) (WL.nil ?_)))))
        replace M := M.sel (L' := [tT S_ tb10 row_ c_, bk sb79 #[(vS s2_.frm), (vS s2_.to_), (vB s2_.back), (vS s2_.at_), (vB s2_.told)] 88, oS acck_ ts2_, oS sv_ ss_]) [2, 1, 0, 3] rfl (by decide)
        exact ⟨_, (by omega), r_ + 1, row_, s2_, ts2_, acck_, S_, c_, ⟨(by omega), (by omega), (by omega), (hwp_.on (by rw [← hs2_]; exact page_more hup_ (by simpa using h108))), rfl⟩, ⟨rfl, rfl, rfl, rfl, rfl, rfl, rfl, rfl, rfl, rfl, rfl, rfl⟩, M⟩
    ·
     have h88p := of_decide_eq_false h88
     omega
end Go.Proofs
