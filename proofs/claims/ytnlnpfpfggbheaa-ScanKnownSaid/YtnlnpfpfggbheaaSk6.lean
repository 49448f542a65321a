/- Proved here: lemmas and walks on which the claim stands (part 6 of 7). No condition. -/
import Derived.Test.YtnlnpfpfggbheaaSk5
set_option linter.all false
set_option maxRecDepth 100000
namespace Go.Proofs
open Go Tp
theorem Try.en58 : Enters Try.prog 58 := fun _ _ => by kernel_rfl
theorem sc_new {G : Nat → Prop} {w : World} (f : ByteArray) (t : ByteArray) (b : Bool)   (M : Mem G (fun _ => False) w [] [] w) : Rets Try.prog 14 #[(vS f), (vS t), (vB b)] w fun r w' => ∃ (sb' : Nat), r = (vP sb') ∧ Mem G (fun _ => False) w [bk sb' #[(vS ((⟨f, t, b, sZ, false⟩ : Scn).frm)), (vS ((⟨f, t, b, sZ, false⟩ : Scn).to_)), (vB ((⟨f, t, b, sZ, false⟩ : Scn).back)), (vS ((⟨f, t, b, sZ, false⟩ : Scn).at_)), (vB ((⟨f, t, b, sZ, false⟩ : Scn).told))] 88] [] w' := by
 refine Rets.enter 12 _ Try.func14 rfl Try.ntmps14 Try.results14 (by simp) ?_
 refine wR (wA vN (WL.nil (wR (wM (vS f) (wM (vS t) (wM (vB b) (wP (Value.agg #[(vS f), (vS t), (vB b), (vS sZ), (vB false)]) ?_)))))))
 refine WL.box (v := (Value.agg #[(vS f), (vS t), (vB b), (vS sZ), (vB false)])) (c := #[(vS f), (vS t), (vB b), (vS sZ), (vB false)]) M rfl rfl rfl (fun b1 w2 hb1 M => ?_)
 refine wA (vP b1) (WL.nil ?_)
 refine W.ret ?_
 refine ⟨.inl rfl, (vP b1), ?_, ?_⟩
 · exact ⟨rfl, (Res.r1 (show RV _ _ _ (.tmp 6) (vP b1) from by exact rfl))⟩
 have e3 : (bk b1 #[(vS ((⟨f, t, b, sZ, false⟩ : Scn).frm)), (vS ((⟨f, t, b, sZ, false⟩ : Scn).to_)), (vB ((⟨f, t, b, sZ, false⟩ : Scn).back)), (vS ((⟨f, t, b, sZ, false⟩ : Scn).at_)), (vB ((⟨f, t, b, sZ, false⟩ : Scn).told))] 88 : Chunk) = (bk b1 #[(vS f), (vS t), (vB b), (vS sZ), (vB false)] 88 : Chunk) := by
  rfl
 replace M := M.rechunk 0 (c' := bk b1 #[(vS ((⟨f, t, b, sZ, false⟩ : Scn).frm)), (vS ((⟨f, t, b, sZ, false⟩ : Scn).to_)), (vB ((⟨f, t, b, sZ, false⟩ : Scn).back)), (vS ((⟨f, t, b, sZ, false⟩ : Scn).at_)), (vB ((⟨f, t, b, sZ, false⟩ : Scn).told))] 88) rfl e3.symm
 refine ⟨b1, ?_, M.close [0] rfl (by decide) trivial⟩
 rfl
theorem sc_within {G : Nat → Prop} {w : World} (sb : Nat) (s : Scn) (k : ByteArray)   (M : Mem G (fun _ => False) w [] [bF sb #[(vS s.frm), (vS s.to_), (vB s.back), (vS s.at_), (vB s.told)] 88] w) : Rets Try.prog 59 #[(vP sb), (vS k)] w fun r w' => r = (vB (withinS s k)) ∧ Mem G (fun _ => False) w [] [] w' := by
 refine Rets.enter 26 _ Try.func59 rfl Try.ntmps59 Try.results59 (by simp) ?_
 refine wR (wA (vB false) (WL.nil (wR (wM (vS k) (wM (vP sb) (wP (vP sb) (wP (vP sb) (wS (vS s.frm) rfl (Step.load1 Try.sc9 rfl ((cell_blk (M.rep 0 rfl) 0).trans rfl)) (wP (vB (!(sLt k s.frm))) (wM (vB (!(sLt k s.frm))) ?_))))))))))
 rcases Bool.eq_false_or_eq_true (!(sLt k s.frm)) with h1 | h1
 ·
  rw [h1]
  refine wM (vP sb) (wP (vP sb) (wP (Value.pointer (some ⟨sb, 1, none⟩)) (wS (vS s.to_) rfl (Step.load1 Try.sc9 rfl ((cell_blk (M.rep 0 rfl) 1).trans rfl)) (wP (vB (s.to_.toList == sZ.toList)) (wM (vB (s.to_.toList == sZ.toList)) ?_)))))
  rcases Bool.eq_false_or_eq_true (s.to_.toList == sZ.toList) with h2 | h2
  ·
   rw [h2]
   refine WL.pass rfl (WL.pass rfl (WL.pass rfl (WL.pass rfl (WL.pass rfl (WL.pass rfl (wS (vB true) rfl (Step.pick (t := true) rfl rfl) (wS (vB true) rfl (Step.pick (t := true) rfl rfl) (wA (vB true) (WL.nil ?_)))))))))
   refine W.ret ?_
   refine ⟨.inl rfl, (vB true), ?_, ?_⟩
   · exact ⟨rfl, (Res.r1 (show RV _ _ _ (.tmp 4) (vB true) from by exact rfl))⟩
   refine ⟨?_, M.close [] rfl (by decide) trivial⟩
   refine congrArg Value.bool ?_
   unfold withinS
   try simp only [sGt, sLe] at *
   try simp only [sEq_dec] at *
   simp_all
  ·
   rw [h2]
   refine wM (vS k) (wM (vP sb) (wP (vP sb) (wP (Value.pointer (some ⟨sb, 1, none⟩)) (wS (vS s.to_) rfl (Step.load1 Try.sc9 rfl ((cell_blk (M.rep 0 rfl) 1).trans rfl)) (wP (vB (sLt k s.to_)) (wS (vB (sLt k s.to_)) rfl (Step.pick (t := false) rfl rfl) (wS (vB (sLt k s.to_)) rfl (Step.pick (t := true) rfl rfl) (wA (vB (sLt k s.to_)) (WL.nil ?_)))))))))
   refine W.ret ?_
   refine ⟨.inl rfl, (vB (sLt k s.to_)), ?_, ?_⟩
   · exact ⟨rfl, (Res.r1 (show RV _ _ _ (.tmp 4) (vB (sLt k s.to_)) from by exact rfl))⟩
   refine ⟨?_, M.close [] rfl (by decide) trivial⟩
   refine congrArg Value.bool ?_
   unfold withinS
   try simp only [sGt, sLe] at *
   try simp only [sEq_dec] at *
   simp_all
 ·
  rw [h1]
  refine WL.pass rfl (WL.pass rfl (WL.pass rfl (WL.pass rfl (WL.pass rfl (WL.pass rfl (WL.pass rfl (WL.pass rfl (WL.pass rfl (WL.pass rfl (WL.pass rfl (WL.pass rfl (WL.pass rfl (wS (vB false) rfl (Step.pick (t := false) rfl rfl) (wA (vB false) (WL.nil ?_)))))))))))))))
  refine W.ret ?_
  refine ⟨.inl rfl, (vB false), ?_, ?_⟩
  · exact ⟨rfl, (Res.r1 (show RV _ _ _ (.tmp 4) (vB false) from by exact rfl))⟩
  refine ⟨?_, M.close [] rfl (by decide) trivial⟩
  refine congrArg Value.bool ?_
  unfold withinS
  try simp only [sGt, sLe] at *
  try simp only [sEq_dec] at *
  simp_all
theorem sc_start {G : Nat → Prop} {w : World} (sb : Nat) (s : Scn)   (M : Mem G (fun _ => False) w [] [bF sb #[(vS s.frm), (vS s.to_), (vB s.back), (vS s.at_), (vB s.told)] 88] w) : Rets Try.prog 58 #[(vP sb)] w fun r w' => r = (vS (startS s)) ∧ Mem G (fun _ => False) w [] [] w' := by
 refine Rets.enter 69 _ Try.func58 rfl Try.ntmps58 Try.results58 (by simp) ?_
 refine wR (wA (vS sZ) (WL.nil (W.seq' (W.block (W.seq' ?_)))))
 rcases Bool.eq_false_or_eq_true (!s.back) with h1 | h1
 ·
  rcases Bool.eq_false_or_eq_true (!s.told) with h2 | h2
  ·
   refine W.drawn M [0, 1, 2, 3, 4, 5, 6, 7, 8, 9, 10, 11, 12, 13, 14, 15, 16, 17, 18, 19, 20, 21, 22, 23] [] [] _ _ sE (fun _ h => h) Try.mixed (by kernel_rfl) ?_
   refine tM (vP sb) rfl (tQ (vP sb) rfl (tQ (Value.pointer (some ⟨sb, 2, none⟩)) rfl (tR (vB false) rfl (fun A w M => (Step.cast (congrArg Value.bool (show (s.back) = false by simpa using h1)) (Step.load1 Try.sc4 rfl ((cell_blk (M.rep 0 rfl) 2).trans rfl)))) (tQ (vB true) rfl (tM (vB true) rfl (tM (vP sb) rfl (tQ (vP sb) rfl (tQ (Value.pointer (some ⟨sb, 4, none⟩)) rfl (tR (vB false) rfl (fun A w M => (Step.cast (congrArg Value.bool (show (s.told) = false by simpa using h2)) (Step.load1 Try.sc4 rfl ((cell_blk (M.rep 0 rfl) 4).trans rfl)))) (tQ (vB true) rfl (tM (vB true) rfl ?_)))))))))))
   refine TW.skip rfl rfl ?_
   refine TW.skip rfl rfl ?_
   refine TW.skip rfl rfl ?_
   refine TW.skip rfl rfl ?_
   refine TW.skip rfl rfl ?_
   refine TW.skip rfl rfl ?_
   refine TW.skip rfl rfl ?_
   refine TW.skip rfl rfl ?_
   refine TW.skip rfl rfl ?_
   refine tP (vB true) rfl (fun w => (Step.pick (t := true) rfl rfl)) (tP (vB true) rfl (fun w => (Step.pick (t := true) rfl rfl)) (tP (vB true) rfl (fun w => (Step.assign rfl)) ?_))
   refine TW.done (fun w3 M => ?_)
   refine W.cond (t := true) rfl (fun _ => ?_) (fun h => by cases h)
   refine wR (wM (vP sb) (wP (vP sb) (wP (vP sb) (wS (vS s.frm) rfl (Step.load1 Try.sc9 rfl ((cell_blk (M.rep 0 rfl) 0).trans rfl)) (wA (vS s.frm) (WL.nil ?_))))))
   refine W.ret ?_
   refine ⟨.inl rfl, (vS s.frm), ?_, ?_⟩
   · exact ⟨rfl, (Res.r1 (show RV _ _ _ (.tmp 2) (vS s.frm) from by exact rfl))⟩
   refine ⟨?_, M.close [] rfl (by decide) trivial⟩
   refine congrArg Value.string ?_
   unfold startS
   try simp only [sGt, sLe] at *
   try simp only [sEq_dec] at *
   simp_all
  ·
   refine W.drawn M [0, 1, 2, 3, 4, 5, 6, 7, 8, 9, 10, 11, 12, 13, 14, 15, 16, 17, 18, 19, 20, 21, 22, 23] [] [] _ _ sE (fun _ h => h) Try.mixed (by kernel_rfl) ?_
   refine tM (vP sb) rfl (tQ (vP sb) rfl (tQ (Value.pointer (some ⟨sb, 2, none⟩)) rfl (tR (vB false) rfl (fun A w M => (Step.cast (congrArg Value.bool (show (s.back) = false by simpa using h1)) (Step.load1 Try.sc4 rfl ((cell_blk (M.rep 0 rfl) 2).trans rfl)))) (tQ (vB true) rfl (tM (vB true) rfl (tM (vP sb) rfl (tQ (vP sb) rfl (tQ (Value.pointer (some ⟨sb, 4, none⟩)) rfl (tR (vB true) rfl (fun A w M => (Step.cast (congrArg Value.bool (show (s.told) = true by simpa using h2)) (Step.load1 Try.sc4 rfl ((cell_blk (M.rep 0 rfl) 4).trans rfl)))) (tQ (vB false) rfl (tM (vB false) rfl (tM (vP sb) rfl (tQ (vP sb) rfl (tQ (Value.pointer (some ⟨sb, 3, none⟩)) rfl (tR (vS s.at_) rfl (fun A w M => (Step.load1 Try.sc9 rfl ((cell_blk (M.rep 0 rfl) 3).trans rfl))) (tM (vP sb) rfl (tQ (vP sb) rfl (tQ (vP sb) rfl (tR (vS s.frm) rfl (fun A w M => (Step.load1 Try.sc9 rfl ((cell_blk (M.rep 0 rfl) 0).trans rfl))) (tQ (vB (sLt s.at_ s.frm)) rfl (tP (vB (sLt s.at_ s.frm)) rfl (fun w => (Step.pick (t := false) rfl rfl)) (tP (vB (sLt s.at_ s.frm)) rfl (fun w => (Step.pick (t := true) rfl rfl)) (tP (vB (sLt s.at_ s.frm)) rfl (fun w => (Step.assign rfl)) ?_)))))))))))))))))))))))
   refine TW.done (fun w4 M => ?_)
   refine W.cond (t := sLt s.at_ s.frm) rfl (fun h5 => ?_) (fun h5 => ?_)
   ·
    refine wR (wM (vP sb) (wP (vP sb) (wP (vP sb) (wS (vS s.frm) rfl (Step.load1 Try.sc9 rfl ((cell_blk (M.rep 0 rfl) 0).trans rfl)) (wA (vS s.frm) (WL.nil ?_))))))
    refine W.ret ?_
    refine ⟨.inl rfl, (vS s.frm), ?_, ?_⟩
    · exact ⟨rfl, (Res.r1 (show RV _ _ _ (.tmp 2) (vS s.frm) from by exact rfl))⟩
    refine ⟨?_, M.close [] rfl (by decide) trivial⟩
    refine congrArg Value.string ?_
    unfold startS
    try simp only [sGt, sLe] at *
    try simp only [sEq_dec] at *
    simp_all
   ·
    refine W.seq' ?_
    refine W.drawn M [0, 1, 2, 3, 4, 5, 6, 7, 8, 9, 10, 11, 12, 13, 14, 15, 16, 17, 18, 19, 20, 21, 22, 23, 24, 25, 26, 27, 28, 29] [] [] _ _ sE (fun _ h => h) Try.mixed (by kernel_rfl) ?_
    refine tM (vP sb) rfl (tQ (vP sb) rfl (tQ (Value.pointer (some ⟨sb, 2, none⟩)) rfl (tR (vB false) rfl (fun A w M => (Step.cast (congrArg Value.bool (show (s.back) = false by simpa using h1)) (Step.load1 Try.sc4 rfl ((cell_blk (M.rep 0 rfl) 2).trans rfl)))) (tM (vB false) rfl ?_))))
    refine TW.skip rfl rfl ?_
    refine TW.skip rfl rfl ?_
    refine TW.skip rfl rfl ?_
    refine TW.skip rfl rfl ?_
    refine TW.skip rfl rfl ?_
    refine TW.skip rfl rfl ?_
    refine TW.skip rfl rfl ?_
    refine TW.skip rfl rfl ?_
    refine TW.skip rfl rfl ?_
    refine TW.skip rfl rfl ?_
    refine TW.skip rfl rfl ?_
    refine TW.skip rfl rfl ?_
    refine TW.skip rfl rfl ?_
    refine TW.skip rfl rfl ?_
    refine TW.skip rfl rfl ?_
    refine TW.skip rfl rfl ?_
    refine TW.skip rfl rfl ?_
    refine TW.skip rfl rfl ?_
    refine TW.skip rfl rfl ?_
    refine TW.skip rfl rfl ?_
    refine TW.skip rfl rfl ?_
    refine TW.skip rfl rfl ?_
    refine TW.skip rfl rfl ?_
    refine tP (vB false) rfl (fun w => (Step.pick (t := false) rfl rfl)) (tP (vB false) rfl (fun w => (Step.assign rfl)) ?_)
    refine TW.done (fun w6 M => ?_)
    refine W.cond (t := false) rfl (fun h => by cases h) (fun _ => ?_)
    refine W.skip (wR (wM (vP sb) (wP (vP sb) (wP (Value.pointer (some ⟨sb, 3, none⟩)) (wS (vS s.at_) rfl (Step.load1 Try.sc9 rfl ((cell_blk (M.rep 0 rfl) 3).trans rfl)) (wA (vS s.at_) (WL.nil ?_)))))))
    refine W.ret ?_
    refine ⟨.inl rfl, (vS s.at_), ?_, ?_⟩
    · exact ⟨rfl, (Res.r1 (show RV _ _ _ (.tmp 2) (vS s.at_) from by exact rfl))⟩
    refine ⟨?_, M.close [] rfl (by decide) trivial⟩
    refine congrArg Value.string ?_
    unfold startS
    try simp only [sGt, sLe] at *
    try simp only [sEq_dec] at *
    simp_all
 ·
  refine W.drawn M [0, 1, 2, 3, 4, 5, 6, 7, 8, 9, 10, 11, 12, 13, 14, 15, 16, 17, 18, 19, 20, 21, 22, 23] [] [] _ _ sE (fun _ h => h) Try.mixed (by kernel_rfl) ?_
  refine tM (vP sb) rfl (tQ (vP sb) rfl (tQ (Value.pointer (some ⟨sb, 2, none⟩)) rfl (tR (vB true) rfl (fun A w M => (Step.cast (congrArg Value.bool (show (s.back) = true by simpa using h1)) (Step.load1 Try.sc4 rfl ((cell_blk (M.rep 0 rfl) 2).trans rfl)))) (tQ (vB false) rfl (tM (vB false) rfl ?_)))))
  refine TW.skip rfl rfl ?_
  refine TW.skip rfl rfl ?_
  refine TW.skip rfl rfl ?_
  refine TW.skip rfl rfl ?_
  refine TW.skip rfl rfl ?_
  refine TW.skip rfl rfl ?_
  refine TW.skip rfl rfl ?_
  refine TW.skip rfl rfl ?_
  refine TW.skip rfl rfl ?_
  refine TW.skip rfl rfl ?_
  refine TW.skip rfl rfl ?_
  refine TW.skip rfl rfl ?_
  refine TW.skip rfl rfl ?_
  refine TW.skip rfl rfl ?_
  refine TW.skip rfl rfl ?_
  refine TW.skip rfl rfl ?_
  refine tP (vB false) rfl (fun w => (Step.pick (t := false) rfl rfl)) (tP (vB false) rfl (fun w => (Step.assign rfl)) ?_)
  refine TW.done (fun w7 M => ?_)
  refine W.cond (t := false) rfl (fun h => by cases h) (fun _ => ?_)
  refine W.seq' ?_
  rcases Bool.eq_false_or_eq_true (!s.told) with h8 | h8
  ·
   refine W.drawn M [0, 1, 2, 3, 4, 5, 6, 7, 8, 9, 10, 11, 12, 13, 14, 15, 16, 17, 18, 19, 20, 21, 22, 23, 24, 25, 26, 27, 28, 29] [] [] _ _ sE (fun _ h => h) Try.mixed (by kernel_rfl) ?_
   refine tM (vP sb) rfl (tQ (vP sb) rfl (tQ (Value.pointer (some ⟨sb, 2, none⟩)) rfl (tR (vB true) rfl (fun A w M => (Step.cast (congrArg Value.bool (show (s.back) = true by simpa using h1)) (Step.load1 Try.sc4 rfl ((cell_blk (M.rep 0 rfl) 2).trans rfl)))) (tM (vB true) rfl (tM (vP sb) rfl (tQ (vP sb) rfl (tQ (Value.pointer (some ⟨sb, 4, none⟩)) rfl (tR (vB false) rfl (fun A w M => (Step.cast (congrArg Value.bool (show (s.told) = false by simpa using h8)) (Step.load1 Try.sc4 rfl ((cell_blk (M.rep 0 rfl) 4).trans rfl)))) (tQ (vB true) rfl (tM (vB true) rfl ?_))))))))))
   refine TW.skip rfl rfl ?_
   refine TW.skip rfl rfl ?_
   refine TW.skip rfl rfl ?_
   refine TW.skip rfl rfl ?_
   refine TW.skip rfl rfl ?_
   refine TW.skip rfl rfl ?_
   refine TW.skip rfl rfl ?_
   refine TW.skip rfl rfl ?_
   refine TW.skip rfl rfl ?_
   refine TW.skip rfl rfl ?_
   refine TW.skip rfl rfl ?_
   refine TW.skip rfl rfl ?_
   refine TW.skip rfl rfl ?_
   refine TW.skip rfl rfl ?_
   refine TW.skip rfl rfl ?_
   refine TW.skip rfl rfl ?_
   refine tP (vB true) rfl (fun w => (Step.pick (t := true) rfl rfl)) (tP (vB true) rfl (fun w => (Step.pick (t := true) rfl rfl)) (tP (vB true) rfl (fun w => (Step.assign rfl)) ?_))
   refine TW.done (fun w9 M => ?_)
   refine W.cond (t := true) rfl (fun _ => ?_) (fun h => by cases h)
   refine wR (wM (vP sb) (wP (vP sb) (wP (Value.pointer (some ⟨sb, 1, none⟩)) (wS (vS s.to_) rfl (Step.load1 Try.sc9 rfl ((cell_blk (M.rep 0 rfl) 1).trans rfl)) (wA (vS s.to_) (WL.nil ?_))))))
   refine W.ret ?_
   refine ⟨.inl rfl, (vS s.to_), ?_, ?_⟩
   · exact ⟨rfl, (Res.r1 (show RV _ _ _ (.tmp 2) (vS s.to_) from by exact rfl))⟩
   refine ⟨?_, M.close [] rfl (by decide) trivial⟩
   refine congrArg Value.string ?_
   unfold startS
   try simp only [sGt, sLe] at *
   try simp only [sEq_dec] at *
   simp_all
  ·
   rcases Bool.eq_false_or_eq_true (!(s.to_.toList == sZ.toList)) with h10 | h10
   ·
    refine W.drawn M [0, 1, 2, 3, 4, 5, 6, 7, 8, 9, 10, 11, 12, 13, 14, 15, 16, 17, 18, 19, 20, 21, 22, 23, 24, 25, 26, 27, 28, 29] [] [] _ _ sE (fun _ h => h) Try.mixed (by kernel_rfl) ?_
    refine tM (vP sb) rfl (tQ (vP sb) rfl (tQ (Value.pointer (some ⟨sb, 2, none⟩)) rfl (tR (vB true) rfl (fun A w M => (Step.cast (congrArg Value.bool (show (s.back) = true by simpa using h1)) (Step.load1 Try.sc4 rfl ((cell_blk (M.rep 0 rfl) 2).trans rfl)))) (tM (vB true) rfl (tM (vP sb) rfl (tQ (vP sb) rfl (tQ (Value.pointer (some ⟨sb, 4, none⟩)) rfl (tR (vB true) rfl (fun A w M => (Step.cast (congrArg Value.bool (show (s.told) = true by simpa using h8)) (Step.load1 Try.sc4 rfl ((cell_blk (M.rep 0 rfl) 4).trans rfl)))) (tQ (vB false) rfl (tM (vB false) rfl (tM (vP sb) rfl (tQ (vP sb) rfl (tQ (Value.pointer (some ⟨sb, 1, none⟩)) rfl (tR (vS s.to_) rfl (fun A w M => (Step.load1 Try.sc9 rfl ((cell_blk (M.rep 0 rfl) 1).trans rfl))) (tP (vB true) rfl (fun w => (Step.cast (congrArg Value.bool h10) sP)) (tM (vB true) rfl (tM (vP sb) rfl (tQ (vP sb) rfl (tQ (Value.pointer (some ⟨sb, 3, none⟩)) rfl (tR (vS s.at_) rfl (fun A w M => (Step.load1 Try.sc9 rfl ((cell_blk (M.rep 0 rfl) 3).trans rfl))) (tM (vP sb) rfl (tQ (vP sb) rfl (tQ (Value.pointer (some ⟨sb, 1, none⟩)) rfl ?_)))))))))))))))))))))))
    refine tR (vS s.to_) rfl (fun A w M => (Step.load1 Try.sc9 rfl ((cell_blk (M.rep 0 rfl) 1).trans rfl))) (tQ (vB (!(sLt s.at_ s.to_ || s.at_.toList == s.to_.toList))) rfl (tP (vB (!(sLt s.at_ s.to_ || s.at_.toList == s.to_.toList))) rfl (fun w => (Step.pick (t := true) rfl rfl)) (tP (vB (!(sLt s.at_ s.to_ || s.at_.toList == s.to_.toList))) rfl (fun w => (Step.pick (t := false) rfl rfl)) (tP (vB (!(sLt s.at_ s.to_ || s.at_.toList == s.to_.toList))) rfl (fun w => (Step.pick (t := true) rfl rfl)) (tP (vB (!(sLt s.at_ s.to_ || s.at_.toList == s.to_.toList))) rfl (fun w => (Step.assign rfl)) ?_)))))
    refine TW.done (fun w11 M => ?_)
    refine W.cond (t := !(sLt s.at_ s.to_ || s.at_.toList == s.to_.toList)) rfl (fun h12 => ?_) (fun h12 => ?_)
    ·
     refine wR (wM (vP sb) (wP (vP sb) (wP (Value.pointer (some ⟨sb, 1, none⟩)) (wS (vS s.to_) rfl (Step.load1 Try.sc9 rfl ((cell_blk (M.rep 0 rfl) 1).trans rfl)) (wA (vS s.to_) (WL.nil ?_))))))
     refine W.ret ?_
     refine ⟨.inl rfl, (vS s.to_), ?_, ?_⟩
     · exact ⟨rfl, (Res.r1 (show RV _ _ _ (.tmp 2) (vS s.to_) from by exact rfl))⟩
     refine ⟨?_, M.close [] rfl (by decide) trivial⟩
     refine congrArg Value.string ?_
     unfold startS
     try simp only [sGt, sLe] at *
     try simp only [sEq_dec] at *
     simp_all
    ·
     refine W.skip (wR (wM (vP sb) (wP (vP sb) (wP (Value.pointer (some ⟨sb, 3, none⟩)) (wS (vS s.at_) rfl (Step.load1 Try.sc9 rfl ((cell_blk (M.rep 0 rfl) 3).trans rfl)) (wA (vS s.at_) (WL.nil ?_)))))))
     refine W.ret ?_
     refine ⟨.inl rfl, (vS s.at_), ?_, ?_⟩
     · exact ⟨rfl, (Res.r1 (show RV _ _ _ (.tmp 2) (vS s.at_) from by exact rfl))⟩
     refine ⟨?_, M.close [] rfl (by decide) trivial⟩
     refine congrArg Value.string ?_
     unfold startS
     try simp only [sGt, sLe] at *
     try simp only [sEq_dec] at *
     simp_all
   ·
    refine W.drawn M [0, 1, 2, 3, 4, 5, 6, 7, 8, 9, 10, 11, 12, 13, 14, 15, 16, 17, 18, 19, 20, 21, 22, 23, 24, 25, 26, 27, 28, 29] [] [] _ _ sE (fun _ h => h) Try.mixed (by kernel_rfl) ?_
    refine tM (vP sb) rfl (tQ (vP sb) rfl (tQ (Value.pointer (some ⟨sb, 2, none⟩)) rfl (tR (vB true) rfl (fun A w M => (Step.cast (congrArg Value.bool (show (s.back) = true by simpa using h1)) (Step.load1 Try.sc4 rfl ((cell_blk (M.rep 0 rfl) 2).trans rfl)))) (tM (vB true) rfl (tM (vP sb) rfl (tQ (vP sb) rfl (tQ (Value.pointer (some ⟨sb, 4, none⟩)) rfl (tR (vB true) rfl (fun A w M => (Step.cast (congrArg Value.bool (show (s.told) = true by simpa using h8)) (Step.load1 Try.sc4 rfl ((cell_blk (M.rep 0 rfl) 4).trans rfl)))) (tQ (vB false) rfl (tM (vB false) rfl (tM (vP sb) rfl (tQ (vP sb) rfl (tQ (Value.pointer (some ⟨sb, 1, none⟩)) rfl (tR (vS s.to_) rfl (fun A w M => (Step.load1 Try.sc9 rfl ((cell_blk (M.rep 0 rfl) 1).trans rfl))) (tP (vB false) rfl (fun w => (Step.cast (congrArg Value.bool h10) sP)) (tM (vB false) rfl ?_))))))))))))))))
    refine TW.skip rfl rfl ?_
    refine TW.skip rfl rfl ?_
    refine TW.skip rfl rfl ?_
    refine TW.skip rfl rfl ?_
    refine TW.skip rfl rfl ?_
    refine TW.skip rfl rfl ?_
    refine TW.skip rfl rfl ?_
    refine TW.skip rfl rfl ?_
    refine TW.skip rfl rfl ?_
    refine tP (vB false) rfl (fun w => (Step.pick (t := false) rfl rfl)) (tP (vB false) rfl (fun w => (Step.pick (t := false) rfl rfl)) (tP (vB false) rfl (fun w => (Step.pick (t := true) rfl rfl)) (tP (vB false) rfl (fun w => (Step.assign rfl)) ?_)))
    refine TW.done (fun w13 M => ?_)
    refine W.cond (t := false) rfl (fun h => by cases h) (fun _ => ?_)
    refine W.skip (wR (wM (vP sb) (wP (vP sb) (wP (Value.pointer (some ⟨sb, 3, none⟩)) (wS (vS s.at_) rfl (Step.load1 Try.sc9 rfl ((cell_blk (M.rep 0 rfl) 3).trans rfl)) (wA (vS s.at_) (WL.nil ?_)))))))
    refine W.ret ?_
    refine ⟨.inl rfl, (vS s.at_), ?_, ?_⟩
    · exact ⟨rfl, (Res.r1 (show RV _ _ _ (.tmp 2) (vS s.at_) from by exact rfl))⟩
    refine ⟨?_, M.close [] rfl (by decide) trivial⟩
    refine congrArg Value.string ?_
    unfold startS
    try simp only [sGt, sLe] at *
    try simp only [sEq_dec] at *
    simp_all
theorem sc_last {G X : Nat → Prop} {w : World} (k : ByteArray) (bb : Nat) (tb : Nat) (S : Nat → Prop) (row : List THit) (c : Nat)  (hc : c ≤ 900) (M : Mem G X w [tT S tb row c] [bF bb #[(vP tb)] 26] w) : Rets Try.prog 96 #[(vS k), (vP bb)] w fun r w' => r = (Value.tuple #[(Value.agg #[(vS (((tailL row).1).key)), (vI (((tailL row).1).val))]), (vB ((tailL row).2))]) ∧ Mem G X w [tT S tb row c] [] w' := by
 refine Rets.enter 9 _ Try.func96 rfl Try.ntmps96 Try.results96 (by simp) ?_
 refine wR ?_
 refine WL.alloc (c := #[(vS sZ), (vI 0)]) M rfl Try.el41.zero rfl (fun b1 w2 hb1 M => ?_)
 refine wA (vB false) (WL.nil (wR (wS (vP tb) rfl (Step.load1 Try.sc26 rfl ((cell_blk (M.rep 0 rfl) 0).trans rfl)) ?_)))
 have fq := M.frm [tT S tb row c] [bk b1 #[(vS sZ), (vI 0)] 41] [1, 0] rfl
 refine WL.callX rfl (T_last tb S row c (by first | assumption | omega) (M.eF fq trivial)) (CallsF.func Try.en78 rfl) ?_
 rintro _ w3 ⟨rfl, m⟩
 replace M := M.lF fq m
 clear m
 refine wP (Value.agg #[(vS (((tailL row).1).key)), (vI (((tailL row).1).val))]) (wP (vB ((tailL row).2)) ?_)
 refine WL.store (v := (Value.agg #[(vS (((tailL row).1).key)), (vI (((tailL row).1).val))])) (cs := [(vS (((tailL row).1).key)), (vI (((tailL row).1).val))]) (c' := #[(vS (((tailL row).1).key)), (vI (((tailL row).1).val))]) M 1 rfl rfl Try.el41.sized rfl rfl rfl rfl (nL rfl) (cC rfl (cC rfl cel_nil)) rfl rfl (fun w4 M => ?_)
 refine wA (vB ((tailL row).2)) (WL.nil ?_)
 refine W.ret ?_
 refine ⟨.inl rfl, (Value.tuple #[(Value.agg #[(vS (((tailL row).1).key)), (vI (((tailL row).1).val))]), (vB ((tailL row).2))]), ?_, ?_⟩
 · exact ⟨rfl, (Res.r2 (RV.cellN Try.ag41 rfl (M.blk 1 rfl) rfl) (show RV _ _ _ (.tmp 4) (vB ((tailL row).2)) from by exact rfl))⟩
 refine ⟨?_, M.close [0] rfl (by decide) trivial⟩
 rfl
theorem sc_look1 {G : Nat → Prop} {w : World} (sb : Nat) (s : Scn) (tb : Nat)  (hl : look1 s = true) (M : Mem G (fun _ => False) w [] [bF sb #[(vS s.frm), (vS s.to_), (vB s.back), (vS s.at_), (vB s.told)] 88] w) : Rets Try.prog 57 #[(vP sb), (vP tb)] w fun r w' => ∃ (b' : Nat), r = (Value.func (.func 96) #[] #[(vP b')]) ∧ Mem G (fun _ => False) w [bk b' #[(vP tb)] 26] [] w' := by
 refine Rets.enter 49 _ Try.func57 rfl Try.ntmps57 Try.results57 (by simp) ?_
 refine wR ?_
 refine WL.box (v := (vP tb)) (c := #[(vP tb)]) M rfl rfl rfl (fun b1 w2 hb1 M => ?_)
 refine wA Value.nilFunc (WL.nil (W.seq' ?_))
 rcases Bool.eq_false_or_eq_true (s.told) with h3 | h3
 ·
  refine W.drawn M [0, 1, 2, 3, 4, 5, 6, 7, 8, 9, 10, 11, 12, 13] [6] [] _ _ (sY sE) (fun _ h => h) Try.mixed (by kernel_rfl) ?_
  refine tM (vP sb) rfl (tQ (vP sb) rfl (tQ (Value.pointer (some ⟨sb, 4, none⟩)) rfl (tR (vB true) rfl (fun A w M => (Step.cast (congrArg Value.bool h3) (Step.load1 Try.sc4 rfl ((cell_blk (M.rep 0 rfl) 4).trans rfl)))) (tM (vB true) rfl (tM (vP sb) rfl ?_)))))
  refine TW.callX (ι := Unit) (fun jx v_ => v_ = (vS (startS s))) (fun jx => [bk b1 #[(vP tb)] 26]) (fun jx => [bF sb #[(vS s.frm), (vS s.to_), (vB s.back), (vS s.at_), (vB s.told)] 88]) rfl (by decide) rfl (fun jx => (sY sE)) (fun jx r h => h) (fun A w M => Rets.mono (sc_start sb s (M.enterW0 ⟨(M.wideR0 0 rfl), trivial⟩)) (fun v_ w_ ⟨e_, m⟩ => ⟨(), e_, (M.leaveW0 m).sel [0, 1] rfl (by decide), fun b hb => M.k0F m b hb⟩)) (fun w => CallsF.func Try.en58 rfl) (fun jx v hp hin => ?_)
  replace hp := hp.symm; subst hp
  clear hin
  refine tM (vP sb) rfl (tQ (vP sb) rfl (tQ (Value.pointer (some ⟨sb, 3, none⟩)) rfl (tR (vS s.at_) rfl (fun A w M => (Step.load1 Try.sc9 rfl ((cell_blk (M.rep 0 rfl) 3).trans rfl))) (tQ (vB ((startS s).toList == s.at_.toList)) rfl (tP (vB ((startS s).toList == s.at_.toList)) rfl (fun w => (Step.pick (t := true) rfl rfl)) (tP (vB ((startS s).toList == s.at_.toList)) rfl (fun w => (Step.assign rfl)) ?_))))))
  refine TW.done (fun w4 M => ?_)
  refine W.seq' (W.block (wR (wM (vP sb) (wP (vP sb) (wP (Value.pointer (some ⟨sb, 2, none⟩)) (wS (vB s.back) rfl (Step.load1 Try.sc4 rfl ((cell_blk (M.rep 0 rfl) 2).trans rfl)) (wM (vB s.back) ?_)))))))
  rcases Bool.eq_false_or_eq_true (s.back) with h5 | h5
  ·
   rw [h5]
   refine wM (vB ((startS s).toList == s.at_.toList)) (wP (vB (!((startS s).toList == s.at_.toList))) (wS (vB (!((startS s).toList == s.at_.toList))) rfl (Step.pick (t := true) rfl rfl) (wM (vB (!((startS s).toList == s.at_.toList))) ?_)))
   rcases Bool.eq_false_or_eq_true (!((startS s).toList == s.at_.toList)) with h6 | h6
   ·
    rw [h6]
    refine wM (vP sb) (wP (vP sb) (wP (Value.pointer (some ⟨sb, 1, none⟩)) (wS (vS s.to_) rfl (Step.load1 Try.sc9 rfl ((cell_blk (M.rep 0 rfl) 1).trans rfl)) (wP (vB (s.to_.toList == sZ.toList)) (wS (vB (s.to_.toList == sZ.toList)) rfl (Step.pick (t := true) rfl rfl) (wA (vB (s.to_.toList == sZ.toList)) (WL.nil ?_)))))))
    refine W.cond (t := s.to_.toList == sZ.toList) rfl (fun h7 => ?_) (fun h7 => ?_)
    ·
     refine wR (wP (Value.func (.func 96) #[] #[(vP b1)]) (wA (Value.func (.func 96) #[] #[(vP b1)]) (WL.nil ?_)))
     refine W.ret ?_
     refine ⟨.inl rfl, (Value.func (.func 96) #[] #[(vP b1)]), ?_, ?_⟩
     · exact ⟨rfl, (Res.r1 (show RV _ _ _ (.tmp 4) (Value.func (.func 96) #[] #[(vP b1)]) from by exact rfl))⟩
     refine ⟨b1, ?_, M.close [0] rfl (by decide) trivial⟩
     rfl
    ·
     exfalso; unfold look1 insideS at hl; try simp only [sEq_dec] at *
     simp_all
   ·
    exfalso; unfold look1 insideS at hl; try simp only [sEq_dec] at *
    simp_all
  ·
   exfalso; unfold look1 insideS at hl; try simp only [sEq_dec] at *
   simp_all
 ·
  refine W.drawn M [0, 1, 2, 3, 4, 5, 6, 7, 8, 9, 10, 11, 12, 13] [6] [] _ _ (sY sE) (fun _ h => h) Try.mixed (by kernel_rfl) ?_
  refine tM (vP sb) rfl (tQ (vP sb) rfl (tQ (Value.pointer (some ⟨sb, 4, none⟩)) rfl (tR (vB false) rfl (fun A w M => (Step.cast (congrArg Value.bool h3) (Step.load1 Try.sc4 rfl ((cell_blk (M.rep 0 rfl) 4).trans rfl)))) (tM (vB false) rfl ?_))))
  refine TW.skip rfl rfl ?_
  refine TW.skip rfl rfl ?_
  refine TW.skip rfl rfl ?_
  refine TW.skip rfl rfl ?_
  refine TW.skip rfl rfl ?_
  refine TW.skip rfl rfl ?_
  refine TW.skip rfl rfl ?_
  refine tP (vB false) rfl (fun w => (Step.pick (t := false) rfl rfl)) (tP (vB false) rfl (fun w => (Step.assign rfl)) ?_)
  refine TW.done (fun w8 M => ?_)
  refine W.seq' (W.block (wR (wM (vP sb) (wP (vP sb) (wP (Value.pointer (some ⟨sb, 2, none⟩)) (wS (vB s.back) rfl (Step.load1 Try.sc4 rfl ((cell_blk (M.rep 0 rfl) 2).trans rfl)) (wM (vB s.back) ?_)))))))
  rcases Bool.eq_false_or_eq_true (s.back) with h9 | h9
  ·
   rw [h9]
   refine wM (vB false) (wP (vB true) (wS (vB true) rfl (Step.pick (t := true) rfl rfl) (wM (vB true) (wM (vP sb) (wP (vP sb) (wP (Value.pointer (some ⟨sb, 1, none⟩)) (wS (vS s.to_) rfl (Step.load1 Try.sc9 rfl ((cell_blk (M.rep 0 rfl) 1).trans rfl)) (wP (vB (s.to_.toList == sZ.toList)) (wS (vB (s.to_.toList == sZ.toList)) rfl (Step.pick (t := true) rfl rfl) (wA (vB (s.to_.toList == sZ.toList)) (WL.nil ?_)))))))))))
   refine W.cond (t := s.to_.toList == sZ.toList) rfl (fun h10 => ?_) (fun h10 => ?_)
   ·
    refine wR (wP (Value.func (.func 96) #[] #[(vP b1)]) (wA (Value.func (.func 96) #[] #[(vP b1)]) (WL.nil ?_)))
    refine W.ret ?_
    refine ⟨.inl rfl, (Value.func (.func 96) #[] #[(vP b1)]), ?_, ?_⟩
    · exact ⟨rfl, (Res.r1 (show RV _ _ _ (.tmp 4) (Value.func (.func 96) #[] #[(vP b1)]) from by exact rfl))⟩
    refine ⟨b1, ?_, M.close [0] rfl (by decide) trivial⟩
    rfl
   ·
    exfalso; unfold look1 insideS at hl; try simp only [sEq_dec] at *
    simp_all
  ·
   exfalso; unfold look1 insideS at hl; try simp only [sEq_dec] at *
   simp_all
theorem sc_look2 {G : Nat → Prop} {w : World} (sb : Nat) (s : Scn) (tb : Nat)  (hl : look2 s = true) (M : Mem G (fun _ => False) w [] [bF sb #[(vS s.frm), (vS s.to_), (vB s.back), (vS s.at_), (vB s.told)] 88] w) : Rets Try.prog 57 #[(vP sb), (vP tb)] w fun r w' => r = (Value.func (.func 60) #[(vP tb)] #[]) ∧ Mem G (fun _ => False) w [] [] w' := by
 refine Rets.enter 49 _ Try.func57 rfl Try.ntmps57 Try.results57 (by simp) ?_
 refine wR ?_
 refine WL.box (v := (vP tb)) (c := #[(vP tb)]) M rfl rfl rfl (fun b1 w2 hb1 M => ?_)
 refine wA Value.nilFunc (WL.nil (W.seq' ?_))
 rcases Bool.eq_false_or_eq_true (s.told) with h3 | h3
 ·
  refine W.drawn M [0, 1, 2, 3, 4, 5, 6, 7, 8, 9, 10, 11, 12, 13] [6] [] _ _ (sY sE) (fun _ h => h) Try.mixed (by kernel_rfl) ?_
  refine tM (vP sb) rfl (tQ (vP sb) rfl (tQ (Value.pointer (some ⟨sb, 4, none⟩)) rfl (tR (vB true) rfl (fun A w M => (Step.cast (congrArg Value.bool h3) (Step.load1 Try.sc4 rfl ((cell_blk (M.rep 0 rfl) 4).trans rfl)))) (tM (vB true) rfl (tM (vP sb) rfl ?_)))))
  refine TW.callX (ι := Unit) (fun jx v_ => v_ = (vS (startS s))) (fun jx => [bk b1 #[(vP tb)] 26]) (fun jx => [bF sb #[(vS s.frm), (vS s.to_), (vB s.back), (vS s.at_), (vB s.told)] 88]) rfl (by decide) rfl (fun jx => (sY sE)) (fun jx r h => h) (fun A w M => Rets.mono (sc_start sb s (M.enterW0 ⟨(M.wideR0 0 rfl), trivial⟩)) (fun v_ w_ ⟨e_, m⟩ => ⟨(), e_, (M.leaveW0 m).sel [0, 1] rfl (by decide), fun b hb => M.k0F m b hb⟩)) (fun w => CallsF.func Try.en58 rfl) (fun jx v hp hin => ?_)
  replace hp := hp.symm; subst hp
  clear hin
  refine tM (vP sb) rfl (tQ (vP sb) rfl (tQ (Value.pointer (some ⟨sb, 3, none⟩)) rfl (tR (vS s.at_) rfl (fun A w M => (Step.load1 Try.sc9 rfl ((cell_blk (M.rep 0 rfl) 3).trans rfl))) (tQ (vB ((startS s).toList == s.at_.toList)) rfl (tP (vB ((startS s).toList == s.at_.toList)) rfl (fun w => (Step.pick (t := true) rfl rfl)) (tP (vB ((startS s).toList == s.at_.toList)) rfl (fun w => (Step.assign rfl)) ?_))))))
  refine TW.done (fun w4 M => ?_)
  refine W.seq' (W.block (wR (wM (vP sb) (wP (vP sb) (wP (Value.pointer (some ⟨sb, 2, none⟩)) (wS (vB s.back) rfl (Step.load1 Try.sc4 rfl ((cell_blk (M.rep 0 rfl) 2).trans rfl)) (wM (vB s.back) ?_)))))))
  rcases Bool.eq_false_or_eq_true (s.back) with h5 | h5
  ·
   rw [h5]
   refine wM (vB ((startS s).toList == s.at_.toList)) (wP (vB (!((startS s).toList == s.at_.toList))) (wS (vB (!((startS s).toList == s.at_.toList))) rfl (Step.pick (t := true) rfl rfl) (wM (vB (!((startS s).toList == s.at_.toList))) ?_)))
   rcases Bool.eq_false_or_eq_true (!((startS s).toList == s.at_.toList)) with h6 | h6
   ·
    rw [h6]
    refine wM (vP sb) (wP (vP sb) (wP (Value.pointer (some ⟨sb, 1, none⟩)) (wS (vS s.to_) rfl (Step.load1 Try.sc9 rfl ((cell_blk (M.rep 0 rfl) 1).trans rfl)) (wP (vB (s.to_.toList == sZ.toList)) (wS (vB (s.to_.toList == sZ.toList)) rfl (Step.pick (t := true) rfl rfl) (wA (vB (s.to_.toList == sZ.toList)) (WL.nil ?_)))))))
    refine W.cond (t := s.to_.toList == sZ.toList) rfl (fun h7 => ?_) (fun h7 => ?_)
    ·
     exfalso; unfold look2 look1 insideS at hl; try simp only [sEq_dec] at *
     simp_all
    ·
     refine wR (wM (vP sb) (wP (vP sb) (wP (Value.pointer (some ⟨sb, 2, none⟩)) (wS (vB true) rfl (Step.cast (congrArg Value.bool h5) (Step.load1 Try.sc4 rfl ((cell_blk (M.rep 0 rfl) 2).trans rfl))) (wA (vB true) (WL.nil ?_))))))
     refine W.cond (t := true) rfl (fun _ => ?_) (fun h => by cases h)
     refine wR (wS (vP tb) rfl (Step.load1 Try.sc26 rfl ((M.cell 0 rfl 0).trans rfl)) (wP (Value.func (.func 60) #[(vP tb)] #[]) (wA (Value.func (.func 60) #[(vP tb)] #[]) (WL.nil ?_))))
     refine W.ret ?_
     refine ⟨.inl rfl, (Value.func (.func 60) #[(vP tb)] #[]), ?_, ?_⟩
     · exact ⟨rfl, (Res.r1 (show RV _ _ _ (.tmp 4) (Value.func (.func 60) #[(vP tb)] #[]) from by exact rfl))⟩
     refine ⟨?_, M.close [] rfl (by decide) trivial⟩
     rfl
   ·
    rw [h6]
    refine WL.pass rfl (WL.pass rfl (WL.pass rfl (WL.pass rfl (WL.pass rfl (wS (vB false) rfl (Step.pick (t := false) rfl rfl) (wA (vB false) (WL.nil ?_)))))))
    refine W.cond (t := false) rfl (fun h => by cases h) (fun _ => ?_)
    refine wR (wM (vP sb) (wP (vP sb) (wP (Value.pointer (some ⟨sb, 2, none⟩)) (wS (vB true) rfl (Step.cast (congrArg Value.bool h5) (Step.load1 Try.sc4 rfl ((cell_blk (M.rep 0 rfl) 2).trans rfl))) (wA (vB true) (WL.nil ?_))))))
    refine W.cond (t := true) rfl (fun _ => ?_) (fun h => by cases h)
    refine wR (wS (vP tb) rfl (Step.load1 Try.sc26 rfl ((M.cell 0 rfl 0).trans rfl)) (wP (Value.func (.func 60) #[(vP tb)] #[]) (wA (Value.func (.func 60) #[(vP tb)] #[]) (WL.nil ?_))))
    refine W.ret ?_
    refine ⟨.inl rfl, (Value.func (.func 60) #[(vP tb)] #[]), ?_, ?_⟩
    · exact ⟨rfl, (Res.r1 (show RV _ _ _ (.tmp 4) (Value.func (.func 60) #[(vP tb)] #[]) from by exact rfl))⟩
    refine ⟨?_, M.close [] rfl (by decide) trivial⟩
    rfl
  ·
   exfalso; unfold look2 look1 insideS at hl; try simp only [sEq_dec] at *
   simp_all
 ·
  refine W.drawn M [0, 1, 2, 3, 4, 5, 6, 7, 8, 9, 10, 11, 12, 13] [6] [] _ _ (sY sE) (fun _ h => h) Try.mixed (by kernel_rfl) ?_
  refine tM (vP sb) rfl (tQ (vP sb) rfl (tQ (Value.pointer (some ⟨sb, 4, none⟩)) rfl (tR (vB false) rfl (fun A w M => (Step.cast (congrArg Value.bool h3) (Step.load1 Try.sc4 rfl ((cell_blk (M.rep 0 rfl) 4).trans rfl)))) (tM (vB false) rfl ?_))))
  refine TW.skip rfl rfl ?_
  refine TW.skip rfl rfl ?_
  refine TW.skip rfl rfl ?_
  refine TW.skip rfl rfl ?_
  refine TW.skip rfl rfl ?_
  refine TW.skip rfl rfl ?_
  refine TW.skip rfl rfl ?_
  refine tP (vB false) rfl (fun w => (Step.pick (t := false) rfl rfl)) (tP (vB false) rfl (fun w => (Step.assign rfl)) ?_)
  refine TW.done (fun w8 M => ?_)
  refine W.seq' (W.block (wR (wM (vP sb) (wP (vP sb) (wP (Value.pointer (some ⟨sb, 2, none⟩)) (wS (vB s.back) rfl (Step.load1 Try.sc4 rfl ((cell_blk (M.rep 0 rfl) 2).trans rfl)) (wM (vB s.back) ?_)))))))
  rcases Bool.eq_false_or_eq_true (s.back) with h9 | h9
  ·
   rw [h9]
   refine wM (vB false) (wP (vB true) (wS (vB true) rfl (Step.pick (t := true) rfl rfl) (wM (vB true) (wM (vP sb) (wP (vP sb) (wP (Value.pointer (some ⟨sb, 1, none⟩)) (wS (vS s.to_) rfl (Step.load1 Try.sc9 rfl ((cell_blk (M.rep 0 rfl) 1).trans rfl)) (wP (vB (s.to_.toList == sZ.toList)) (wS (vB (s.to_.toList == sZ.toList)) rfl (Step.pick (t := true) rfl rfl) (wA (vB (s.to_.toList == sZ.toList)) (WL.nil ?_)))))))))))
   refine W.cond (t := s.to_.toList == sZ.toList) rfl (fun h10 => ?_) (fun h10 => ?_)
   ·
    exfalso; unfold look2 look1 insideS at hl; try simp only [sEq_dec] at *
    simp_all
   ·
    refine wR (wM (vP sb) (wP (vP sb) (wP (Value.pointer (some ⟨sb, 2, none⟩)) (wS (vB true) rfl (Step.cast (congrArg Value.bool h9) (Step.load1 Try.sc4 rfl ((cell_blk (M.rep 0 rfl) 2).trans rfl))) (wA (vB true) (WL.nil ?_))))))
    refine W.cond (t := true) rfl (fun _ => ?_) (fun h => by cases h)
    refine wR (wS (vP tb) rfl (Step.load1 Try.sc26 rfl ((M.cell 0 rfl 0).trans rfl)) (wP (Value.func (.func 60) #[(vP tb)] #[]) (wA (Value.func (.func 60) #[(vP tb)] #[]) (WL.nil ?_))))
    refine W.ret ?_
    refine ⟨.inl rfl, (Value.func (.func 60) #[(vP tb)] #[]), ?_, ?_⟩
    · exact ⟨rfl, (Res.r1 (show RV _ _ _ (.tmp 4) (Value.func (.func 60) #[(vP tb)] #[]) from by exact rfl))⟩
    refine ⟨?_, M.close [] rfl (by decide) trivial⟩
    rfl
  ·
   exfalso; unfold look2 look1 insideS at hl; try simp only [sEq_dec] at *
   simp_all
theorem sc_look3 {G : Nat → Prop} {w : World} (sb : Nat) (s : Scn) (tb : Nat)  (hl : look3 s = true) (M : Mem G (fun _ => False) w [] [bF sb #[(vS s.frm), (vS s.to_), (vB s.back), (vS s.at_), (vB s.told)] 88] w) : Rets Try.prog 57 #[(vP sb), (vP tb)] w fun r w' => r = (Value.func (.func 72) #[(vP tb)] #[]) ∧ Mem G (fun _ => False) w [] [] w' := by
 refine Rets.enter 49 _ Try.func57 rfl Try.ntmps57 Try.results57 (by simp) ?_
 refine wR ?_
 refine WL.box (v := (vP tb)) (c := #[(vP tb)]) M rfl rfl rfl (fun b1 w2 hb1 M => ?_)
 refine wA Value.nilFunc (WL.nil (W.seq' ?_))
 rcases Bool.eq_false_or_eq_true (s.told) with h3 | h3
 ·
  refine W.drawn M [0, 1, 2, 3, 4, 5, 6, 7, 8, 9, 10, 11, 12, 13] [6] [] _ _ (sY sE) (fun _ h => h) Try.mixed (by kernel_rfl) ?_
  refine tM (vP sb) rfl (tQ (vP sb) rfl (tQ (Value.pointer (some ⟨sb, 4, none⟩)) rfl (tR (vB true) rfl (fun A w M => (Step.cast (congrArg Value.bool h3) (Step.load1 Try.sc4 rfl ((cell_blk (M.rep 0 rfl) 4).trans rfl)))) (tM (vB true) rfl (tM (vP sb) rfl ?_)))))
  refine TW.callX (ι := Unit) (fun jx v_ => v_ = (vS (startS s))) (fun jx => [bk b1 #[(vP tb)] 26]) (fun jx => [bF sb #[(vS s.frm), (vS s.to_), (vB s.back), (vS s.at_), (vB s.told)] 88]) rfl (by decide) rfl (fun jx => (sY sE)) (fun jx r h => h) (fun A w M => Rets.mono (sc_start sb s (M.enterW0 ⟨(M.wideR0 0 rfl), trivial⟩)) (fun v_ w_ ⟨e_, m⟩ => ⟨(), e_, (M.leaveW0 m).sel [0, 1] rfl (by decide), fun b hb => M.k0F m b hb⟩)) (fun w => CallsF.func Try.en58 rfl) (fun jx v hp hin => ?_)
  replace hp := hp.symm; subst hp
  clear hin
  refine tM (vP sb) rfl (tQ (vP sb) rfl (tQ (Value.pointer (some ⟨sb, 3, none⟩)) rfl (tR (vS s.at_) rfl (fun A w M => (Step.load1 Try.sc9 rfl ((cell_blk (M.rep 0 rfl) 3).trans rfl))) (tQ (vB ((startS s).toList == s.at_.toList)) rfl (tP (vB ((startS s).toList == s.at_.toList)) rfl (fun w => (Step.pick (t := true) rfl rfl)) (tP (vB ((startS s).toList == s.at_.toList)) rfl (fun w => (Step.assign rfl)) ?_))))))
  refine TW.done (fun w4 M => ?_)
  refine W.seq' (W.block (wR (wM (vP sb) (wP (vP sb) (wP (Value.pointer (some ⟨sb, 2, none⟩)) (wS (vB s.back) rfl (Step.load1 Try.sc4 rfl ((cell_blk (M.rep 0 rfl) 2).trans rfl)) (wM (vB s.back) ?_)))))))
  rcases Bool.eq_false_or_eq_true (s.back) with h5 | h5
  ·
   exfalso; unfold look3 insideS at hl; try simp only [sEq_dec] at *
   simp_all
  ·
   rw [h5]
   refine WL.pass rfl (WL.pass rfl (wS (vB false) rfl (Step.pick (t := false) rfl rfl) (wM (vB false) (WL.pass rfl (WL.pass rfl (WL.pass rfl (WL.pass rfl (WL.pass rfl (wS (vB false) rfl (Step.pick (t := false) rfl rfl) (wA (vB false) (WL.nil ?_)))))))))))
   refine W.cond (t := false) rfl (fun h => by cases h) (fun _ => ?_)
   refine wR (wM (vP sb) (wP (vP sb) (wP (Value.pointer (some ⟨sb, 2, none⟩)) (wS (vB false) rfl (Step.cast (congrArg Value.bool h5) (Step.load1 Try.sc4 rfl ((cell_blk (M.rep 0 rfl) 2).trans rfl))) (wA (vB false) (WL.nil ?_))))))
   refine W.cond (t := false) rfl (fun h => by cases h) (fun _ => ?_)
   refine wR (wM (vB ((startS s).toList == s.at_.toList)) (wA (vB ((startS s).toList == s.at_.toList)) (WL.nil ?_)))
   refine W.cond (t := (startS s).toList == s.at_.toList) rfl (fun h6 => ?_) (fun h6 => ?_)
   ·
    refine wR (wS (vP tb) rfl (Step.load1 Try.sc26 rfl ((M.cell 0 rfl 0).trans rfl)) (wP (Value.func (.func 72) #[(vP tb)] #[]) (wA (Value.func (.func 72) #[(vP tb)] #[]) (WL.nil ?_))))
    refine W.ret ?_
    refine ⟨.inl rfl, (Value.func (.func 72) #[(vP tb)] #[]), ?_, ?_⟩
    · exact ⟨rfl, (Res.r1 (show RV _ _ _ (.tmp 4) (Value.func (.func 72) #[(vP tb)] #[]) from by exact rfl))⟩
    refine ⟨?_, M.close [] rfl (by decide) trivial⟩
    rfl
   ·
    exfalso; unfold look3 insideS at hl; try simp only [sEq_dec] at *
    simp_all
 ·
  exfalso; unfold look3 insideS at hl; try simp only [sEq_dec] at *
  simp_all
theorem sc_look4 {G : Nat → Prop} {w : World} (sb : Nat) (s : Scn) (tb : Nat)  (hl : look4 s = true) (M : Mem G (fun _ => False) w [] [bF sb #[(vS s.frm), (vS s.to_), (vB s.back), (vS s.at_), (vB s.told)] 88] w) : Rets Try.prog 57 #[(vP sb), (vP tb)] w fun r w' => r = (Value.func (.func 45) #[(vP tb)] #[]) ∧ Mem G (fun _ => False) w [] [] w' := by
 refine Rets.enter 49 _ Try.func57 rfl Try.ntmps57 Try.results57 (by simp) ?_
 refine wR ?_
 refine WL.box (v := (vP tb)) (c := #[(vP tb)]) M rfl rfl rfl (fun b1 w2 hb1 M => ?_)
 refine wA Value.nilFunc (WL.nil (W.seq' ?_))
 rcases Bool.eq_false_or_eq_true (s.told) with h3 | h3
 ·
  refine W.drawn M [0, 1, 2, 3, 4, 5, 6, 7, 8, 9, 10, 11, 12, 13] [6] [] _ _ (sY sE) (fun _ h => h) Try.mixed (by kernel_rfl) ?_
  refine tM (vP sb) rfl (tQ (vP sb) rfl (tQ (Value.pointer (some ⟨sb, 4, none⟩)) rfl (tR (vB true) rfl (fun A w M => (Step.cast (congrArg Value.bool h3) (Step.load1 Try.sc4 rfl ((cell_blk (M.rep 0 rfl) 4).trans rfl)))) (tM (vB true) rfl (tM (vP sb) rfl ?_)))))
  refine TW.callX (ι := Unit) (fun jx v_ => v_ = (vS (startS s))) (fun jx => [bk b1 #[(vP tb)] 26]) (fun jx => [bF sb #[(vS s.frm), (vS s.to_), (vB s.back), (vS s.at_), (vB s.told)] 88]) rfl (by decide) rfl (fun jx => (sY sE)) (fun jx r h => h) (fun A w M => Rets.mono (sc_start sb s (M.enterW0 ⟨(M.wideR0 0 rfl), trivial⟩)) (fun v_ w_ ⟨e_, m⟩ => ⟨(), e_, (M.leaveW0 m).sel [0, 1] rfl (by decide), fun b hb => M.k0F m b hb⟩)) (fun w => CallsF.func Try.en58 rfl) (fun jx v hp hin => ?_)
  replace hp := hp.symm; subst hp
  clear hin
  refine tM (vP sb) rfl (tQ (vP sb) rfl (tQ (Value.pointer (some ⟨sb, 3, none⟩)) rfl (tR (vS s.at_) rfl (fun A w M => (Step.load1 Try.sc9 rfl ((cell_blk (M.rep 0 rfl) 3).trans rfl))) (tQ (vB ((startS s).toList == s.at_.toList)) rfl (tP (vB ((startS s).toList == s.at_.toList)) rfl (fun w => (Step.pick (t := true) rfl rfl)) (tP (vB ((startS s).toList == s.at_.toList)) rfl (fun w => (Step.assign rfl)) ?_))))))
  refine TW.done (fun w4 M => ?_)
  refine W.seq' (W.block (wR (wM (vP sb) (wP (vP sb) (wP (Value.pointer (some ⟨sb, 2, none⟩)) (wS (vB s.back) rfl (Step.load1 Try.sc4 rfl ((cell_blk (M.rep 0 rfl) 2).trans rfl)) (wM (vB s.back) ?_)))))))
  rcases Bool.eq_false_or_eq_true (s.back) with h5 | h5
  ·
   exfalso; unfold look4 insideS at hl; try simp only [sEq_dec] at *
   simp_all
  ·
   rw [h5]
   refine WL.pass rfl (WL.pass rfl (wS (vB false) rfl (Step.pick (t := false) rfl rfl) (wM (vB false) (WL.pass rfl (WL.pass rfl (WL.pass rfl (WL.pass rfl (WL.pass rfl (wS (vB false) rfl (Step.pick (t := false) rfl rfl) (wA (vB false) (WL.nil ?_)))))))))))
   refine W.cond (t := false) rfl (fun h => by cases h) (fun _ => ?_)
   refine wR (wM (vP sb) (wP (vP sb) (wP (Value.pointer (some ⟨sb, 2, none⟩)) (wS (vB false) rfl (Step.cast (congrArg Value.bool h5) (Step.load1 Try.sc4 rfl ((cell_blk (M.rep 0 rfl) 2).trans rfl))) (wA (vB false) (WL.nil ?_))))))
   refine W.cond (t := false) rfl (fun h => by cases h) (fun _ => ?_)
   refine wR (wM (vB ((startS s).toList == s.at_.toList)) (wA (vB ((startS s).toList == s.at_.toList)) (WL.nil ?_)))
   refine W.cond (t := (startS s).toList == s.at_.toList) rfl (fun h6 => ?_) (fun h6 => ?_)
   ·
    exfalso; unfold look4 insideS at hl; try simp only [sEq_dec] at *
    simp_all
   ·
    refine W.skip (wR (wS (vP tb) rfl (Step.load1 Try.sc26 rfl ((M.cell 0 rfl 0).trans rfl)) (wP (Value.func (.func 45) #[(vP tb)] #[]) (wA (Value.func (.func 45) #[(vP tb)] #[]) (WL.nil ?_)))))
    refine W.ret ?_
    refine ⟨.inl rfl, (Value.func (.func 45) #[(vP tb)] #[]), ?_, ?_⟩
    · exact ⟨rfl, (Res.r1 (show RV _ _ _ (.tmp 4) (Value.func (.func 45) #[(vP tb)] #[]) from by exact rfl))⟩
    refine ⟨?_, M.close [] rfl (by decide) trivial⟩
    rfl
 ·
  refine W.drawn M [0, 1, 2, 3, 4, 5, 6, 7, 8, 9, 10, 11, 12, 13] [6] [] _ _ (sY sE) (fun _ h => h) Try.mixed (by kernel_rfl) ?_
  refine tM (vP sb) rfl (tQ (vP sb) rfl (tQ (Value.pointer (some ⟨sb, 4, none⟩)) rfl (tR (vB false) rfl (fun A w M => (Step.cast (congrArg Value.bool h3) (Step.load1 Try.sc4 rfl ((cell_blk (M.rep 0 rfl) 4).trans rfl)))) (tM (vB false) rfl ?_))))
  refine TW.skip rfl rfl ?_
  refine TW.skip rfl rfl ?_
  refine TW.skip rfl rfl ?_
  refine TW.skip rfl rfl ?_
  refine TW.skip rfl rfl ?_
  refine TW.skip rfl rfl ?_
  refine TW.skip rfl rfl ?_
  refine tP (vB false) rfl (fun w => (Step.pick (t := false) rfl rfl)) (tP (vB false) rfl (fun w => (Step.assign rfl)) ?_)
  refine TW.done (fun w7 M => ?_)
  refine W.seq' (W.block (wR (wM (vP sb) (wP (vP sb) (wP (Value.pointer (some ⟨sb, 2, none⟩)) (wS (vB s.back) rfl (Step.load1 Try.sc4 rfl ((cell_blk (M.rep 0 rfl) 2).trans rfl)) (wM (vB s.back) ?_)))))))
  rcases Bool.eq_false_or_eq_true (s.back) with h8 | h8
  ·
   exfalso; unfold look4 insideS at hl; try simp only [sEq_dec] at *
   simp_all
  ·
   rw [h8]
   refine WL.pass rfl (WL.pass rfl (wS (vB false) rfl (Step.pick (t := false) rfl rfl) (wM (vB false) (WL.pass rfl (WL.pass rfl (WL.pass rfl (WL.pass rfl (WL.pass rfl (wS (vB false) rfl (Step.pick (t := false) rfl rfl) (wA (vB false) (WL.nil ?_)))))))))))
   refine W.cond (t := false) rfl (fun h => by cases h) (fun _ => ?_)
   refine wR (wM (vP sb) (wP (vP sb) (wP (Value.pointer (some ⟨sb, 2, none⟩)) (wS (vB false) rfl (Step.cast (congrArg Value.bool h8) (Step.load1 Try.sc4 rfl ((cell_blk (M.rep 0 rfl) 2).trans rfl))) (wA (vB false) (WL.nil ?_))))))
   refine W.cond (t := false) rfl (fun h => by cases h) (fun _ => ?_)
   refine wR (wM (vB false) (wA (vB false) (WL.nil ?_)))
   refine W.cond (t := false) rfl (fun h => by cases h) (fun _ => ?_)
   refine W.skip (wR (wS (vP tb) rfl (Step.load1 Try.sc26 rfl ((M.cell 0 rfl 0).trans rfl)) (wP (Value.func (.func 45) #[(vP tb)] #[]) (wA (Value.func (.func 45) #[(vP tb)] #[]) (WL.nil ?_)))))
   refine W.ret ?_
   refine ⟨.inl rfl, (Value.func (.func 45) #[(vP tb)] #[]), ?_, ?_⟩
   · exact ⟨rfl, (Res.r1 (show RV _ _ _ (.tmp 4) (Value.func (.func 45) #[(vP tb)] #[]) from by exact rfl))⟩
   refine ⟨?_, M.close [] rfl (by decide) trivial⟩
   rfl
end Go.Proofs
set_option maxRecDepth 100000
namespace Go.Proofs
open Go Tp
theorem Try.en25 : Enters Try.prog 25 := fun _ _ => by kernel_rfl
theorem Try.en57 : Enters Try.prog 57 := fun _ _ => by kernel_rfl
theorem Try.en59 : Enters Try.prog 59 := fun _ _ => by kernel_rfl
theorem Try.en96 : Enters Try.prog 96 := fun _ _ => by kernel_rfl
theorem sc_peek {G X : Nat → Prop} {w : World} (sb : Nat) (s : Scn) (tb : Nat) (S : Nat → Prop) (row : List THit) (c : Nat)  (hc : c ≤ 900) (M : Mem G X w [tT S tb row c] [bF sb #[(vS s.frm), (vS s.to_), (vB s.back), (vS s.at_), (vB s.told)] 88] w) : Rets Try.prog 25 #[(vP sb), (vP tb)] w fun r w' => r = (Value.tuple #[(Value.agg #[(vS (((peekR s row).1).key)), (vI (((peekR s row).1).val))]), (vB ((peekR s row).2))]) ∧ Mem G X w [tT S tb row c] [] w' := by
 refine Rets.enter 35 _ Try.func25 rfl Try.ntmps25 Try.results25 (by simp) ?_
 obtain ⟨hu_, hrc_⟩ := tabC_up (M.chunk 0 rfl).inv
 refine wR ?_
 refine WL.alloc (c := #[(vS sZ), (vI 0)]) M rfl Try.el41.zero rfl (fun b1 w2 hb1 M => ?_)
 refine wA (vB false) (WL.nil (W.seq' (wR (wM (vP sb) (wP (vB false) (wM (vB false) (wM (vP tb) (wP (vB false) (wS (vB false) rfl (Step.pick (t := false) rfl rfl) (WL.nil ?_))))))))))
 refine W.cond (t := false) rfl (fun h => by cases h) (fun _ => ?_)
 refine W.skip (wR (wM (vP sb) (wM (vP tb) ?_)))
 rcases Bool.eq_false_or_eq_true (look1 s) with h3 | h3
 ·
  refine WL.callX rfl (sc_look1 sb s tb h3 (M.enterW0 ⟨(M.wideR0 0 rfl), trivial⟩)) (CallsF.func Try.en57 rfl) ?_
  rintro _ w5 ⟨b4, rfl, m⟩
  replace M := M.leaveW0 m
  clear m
  refine wM (vP sb) ?_
  refine WL.callX rfl (sc_start sb s (M.enterW0 ⟨(M.wideR0 0 rfl), trivial⟩)) (CallsF.func Try.en58 rfl) ?_
  rintro _ w6 ⟨rfl, m⟩
  replace M := M.leaveW0 m
  clear m
  have fq := M.frm [tT S tb row c] [bk b4 #[(vP tb)] 26, bk b1 #[(vS sZ), (vI 0)] 41] [2, 0, 1] rfl
  refine WL.callX rfl (sc_last (startS s) b4 tb S row c (by first | assumption | omega) (M.eF fq ⟨(M.cF fq 0 rfl), trivial⟩)) (CallsF.value Try.en96 rfl rfl rfl) ?_
  rintro _ w7 ⟨rfl, m⟩
  replace M := M.lF fq m
  clear m
  refine wM (Value.tuple #[(Value.agg #[(vS (((tailL row).1).key)), (vI (((tailL row).1).val))]), (vB ((tailL row).2))]) (wP (Value.agg #[(vS (((tailL row).1).key)), (vI (((tailL row).1).val))]) (wP (vB ((tailL row).2)) ?_))
  refine WL.alloc (c := #[(vS sZ), (vI 0)]) M rfl Try.el41.zero rfl (fun b8 w9 hb8 M => ?_)
  refine WL.store (v := (Value.agg #[(vS (((tailL row).1).key)), (vI (((tailL row).1).val))])) (cs := [(vS (((tailL row).1).key)), (vI (((tailL row).1).val))]) (c' := #[(vS (((tailL row).1).key)), (vI (((tailL row).1).val))]) M 0 rfl rfl Try.el41.sized rfl rfl rfl rfl (nL rfl) (cC rfl (cC rfl cel_nil)) rfl rfl (fun w10 M => ?_)
  refine wA (vB ((tailL row).2)) (WL.nil (W.seq' (W.seq' ?_)))
  replace M := M.loseI 2
  refine W.region rfl (wM (vB ((tailL row).2)) (wP (vB (!((tailL row).2))) (wM (vB (!((tailL row).2))) ?_)))
  rcases Bool.eq_false_or_eq_true (!((tailL row).2)) with h11 | h11
  ·
   rw [h11]
   refine WL.pass rfl (WL.pass rfl (WL.pass rfl (WL.pass rfl (WL.pass rfl (wS (vB true) rfl (Step.pick (t := true) rfl rfl) (WL.nil ?_))))))
   refine W.cond (t := true) rfl (fun _ => ?_) (fun h => by cases h)
   refine wR (wP (Value.agg #[(vS sZ), (vI 0)]) ?_)
   refine WL.store (v := (Value.agg #[(vS sZ), (vI 0)])) (cs := [(vS sZ), (vI 0)]) (c' := #[(vS sZ), (vI 0)]) M 2 rfl rfl Try.el41.sized rfl rfl rfl rfl (nL rfl) (cC rfl (cC rfl cel_nil)) rfl rfl (fun w12 M => ?_)
   refine wA (vB false) (WL.nil ?_)
   refine W.ret ?_
   refine ⟨.inl rfl, (Value.tuple #[(Value.agg #[(vS sZ), (vI 0)]), (vB false)]), ?_, ?_⟩
   · exact ⟨rfl, (Res.r2 (RV.cellN Try.ag41 rfl (M.blk 2 rfl) rfl) (show RV _ _ _ (.tmp 5) (vB false) from by exact rfl))⟩
   refine ⟨?_, M.close [1] rfl (by decide) trivial⟩
   rw [peek1 hu_ (by assumption)]
   rw [chk_miss (by simpa using h11)]; rfl
  ·
   rw [h11]
   refine wM (vP sb) (wP (vP b8) (wS (vS (((tailL row).1).key)) rfl (Step.load1 Try.sc9 rfl ((M.cell 0 rfl 0).trans rfl)) ?_))
   refine WL.callX rfl (sc_within sb s (((tailL row).1).key) (M.enterW0 ⟨(M.wideR0 0 rfl), trivial⟩)) (CallsF.func Try.en59 rfl) ?_
   rintro _ w13 ⟨rfl, m⟩
   replace M := M.leaveW0 m
   clear m
   refine wP (vB (!(withinS s (((tailL row).1).key)))) (wS (vB (!(withinS s (((tailL row).1).key)))) rfl (Step.pick (t := false) rfl rfl) (WL.nil ?_))
   refine W.cond (t := !(withinS s (((tailL row).1).key))) rfl (fun h14 => ?_) (fun h14 => ?_)
   ·
    refine wR (wP (Value.agg #[(vS sZ), (vI 0)]) ?_)
    refine WL.store (v := (Value.agg #[(vS sZ), (vI 0)])) (cs := [(vS sZ), (vI 0)]) (c' := #[(vS sZ), (vI 0)]) M 2 rfl rfl Try.el41.sized rfl rfl rfl rfl (nL rfl) (cC rfl (cC rfl cel_nil)) rfl rfl (fun w15 M => ?_)
    refine wA (vB false) (WL.nil ?_)
    refine W.ret ?_
    refine ⟨.inl rfl, (Value.tuple #[(Value.agg #[(vS sZ), (vI 0)]), (vB false)]), ?_, ?_⟩
    · exact ⟨rfl, (Res.r2 (RV.cellN Try.ag41 rfl (M.blk 2 rfl) rfl) (show RV _ _ _ (.tmp 5) (vB false) from by exact rfl))⟩
    refine ⟨?_, M.close [1] rfl (by decide) trivial⟩
    rw [peek1 hu_ (by assumption)]
    rw [chk_out (by simpa using h14)]; rfl
   ·
    refine W.skip (wR (wS (Value.agg #[(vS (((tailL row).1).key)), (vI (((tailL row).1).val))]) rfl (Step.loadN Try.ag41 rfl (M.blk 0 rfl) (nL rfl) rfl) ?_))
    refine WL.store (v := (Value.agg #[(vS (((tailL row).1).key)), (vI (((tailL row).1).val))])) (cs := [(vS (((tailL row).1).key)), (vI (((tailL row).1).val))]) (c' := #[(vS (((tailL row).1).key)), (vI (((tailL row).1).val))]) M 2 rfl rfl Try.el41.sized rfl rfl rfl rfl (nL rfl) (cC rfl (cC rfl cel_nil)) rfl rfl (fun w16 M => ?_)
    refine wA (vB true) (WL.nil ?_)
    refine W.ret ?_
    refine ⟨.inl rfl, (Value.tuple #[(Value.agg #[(vS (((tailL row).1).key)), (vI (((tailL row).1).val))]), (vB true)]), ?_, ?_⟩
    · exact ⟨rfl, (Res.r2 (RV.cellN Try.ag41 rfl (M.blk 2 rfl) rfl) (show RV _ _ _ (.tmp 5) (vB true) from by exact rfl))⟩
    refine ⟨?_, M.close [1] rfl (by decide) trivial⟩
    rw [peek1 hu_ (by assumption)]
    rw [chk_in (by simpa using h11) (by simpa using h14)]; first | rfl | (simp_all; done)
 ·
  rcases Bool.eq_false_or_eq_true (look2 s) with h17 | h17
  ·
   refine WL.callX rfl (sc_look2 sb s tb h17 (M.enterW0 ⟨(M.wideR0 0 rfl), trivial⟩)) (CallsF.func Try.en57 rfl) ?_
   rintro _ w18 ⟨rfl, m⟩
   replace M := M.leaveW0 m
   clear m
   refine wM (vP sb) ?_
   refine WL.callX rfl (sc_start sb s (M.enterW0 ⟨(M.wideR0 0 rfl), trivial⟩)) (CallsF.func Try.en58 rfl) ?_
   rintro _ w19 ⟨rfl, m⟩
   replace M := M.leaveW0 m
   clear m
   have fq := M.frm [tT S tb row c] [bk b1 #[(vS sZ), (vI 0)] 41] [1, 0] rfl
   refine WL.callX rfl (T_before tb S row c (startS s) (by first | assumption | omega) (M.eF fq trivial)) (CallsF.value Try.en60 rfl rfl rfl) ?_
   rintro _ w20 ⟨rfl, m⟩
   replace M := M.lF fq m
   clear m
   refine wM (Value.tuple #[(Value.agg #[(vS (((beforeL row (startS s)).1).key)), (vI (((beforeL row (startS s)).1).val))]), (vB ((beforeL row (startS s)).2))]) (wP (Value.agg #[(vS (((beforeL row (startS s)).1).key)), (vI (((beforeL row (startS s)).1).val))]) (wP (vB ((beforeL row (startS s)).2)) ?_))
   refine WL.alloc (c := #[(vS sZ), (vI 0)]) M rfl Try.el41.zero rfl (fun b21 w22 hb21 M => ?_)
   refine WL.store (v := (Value.agg #[(vS (((beforeL row (startS s)).1).key)), (vI (((beforeL row (startS s)).1).val))])) (cs := [(vS (((beforeL row (startS s)).1).key)), (vI (((beforeL row (startS s)).1).val))]) (c' := #[(vS (((beforeL row (startS s)).1).key)), (vI (((beforeL row (startS s)).1).val))]) M 0 rfl rfl Try.el41.sized rfl rfl rfl rfl (nL rfl) (cC rfl (cC rfl cel_nil)) rfl rfl (fun w23 M => ?_)
   refine wA (vB ((beforeL row (startS s)).2)) (WL.nil (W.seq' (wR (wM (vB ((beforeL row (startS s)).2)) (wP (vB (!((beforeL row (startS s)).2))) (wM (vB (!((beforeL row (startS s)).2))) ?_))))))
   rcases Bool.eq_false_or_eq_true (!((beforeL row (startS s)).2)) with h24 | h24
   ·
    rw [h24]
    refine WL.pass rfl (WL.pass rfl (WL.pass rfl (WL.pass rfl (WL.pass rfl (wS (vB true) rfl (Step.pick (t := true) rfl rfl) (WL.nil ?_))))))
    refine W.cond (t := true) rfl (fun _ => ?_) (fun h => by cases h)
    refine wR (wP (Value.agg #[(vS sZ), (vI 0)]) ?_)
    refine WL.store (v := (Value.agg #[(vS sZ), (vI 0)])) (cs := [(vS sZ), (vI 0)]) (c' := #[(vS sZ), (vI 0)]) M 2 rfl rfl Try.el41.sized rfl rfl rfl rfl (nL rfl) (cC rfl (cC rfl cel_nil)) rfl rfl (fun w25 M => ?_)
    refine wA (vB false) (WL.nil ?_)
    refine W.ret ?_
    refine ⟨.inl rfl, (Value.tuple #[(Value.agg #[(vS sZ), (vI 0)]), (vB false)]), ?_, ?_⟩
    · exact ⟨rfl, (Res.r2 (RV.cellN Try.ag41 rfl (M.blk 2 rfl) rfl) (show RV _ _ _ (.tmp 5) (vB false) from by exact rfl))⟩
    refine ⟨?_, M.close [1] rfl (by decide) trivial⟩
    rw [peek2 hu_ (by assumption)]
    rw [chk_miss (by simpa using h24)]; rfl
   ·
    rw [h24]
    refine wM (vP sb) (wP (vP b21) (wS (vS (((beforeL row (startS s)).1).key)) rfl (Step.load1 Try.sc9 rfl ((M.cell 0 rfl 0).trans rfl)) ?_))
    refine WL.callX rfl (sc_within sb s (((beforeL row (startS s)).1).key) (M.enterW0 ⟨(M.wideR0 0 rfl), trivial⟩)) (CallsF.func Try.en59 rfl) ?_
    rintro _ w26 ⟨rfl, m⟩
    replace M := M.leaveW0 m
    clear m
    refine wP (vB (!(withinS s (((beforeL row (startS s)).1).key)))) (wS (vB (!(withinS s (((beforeL row (startS s)).1).key)))) rfl (Step.pick (t := false) rfl rfl) (WL.nil ?_))
    refine W.cond (t := !(withinS s (((beforeL row (startS s)).1).key))) rfl (fun h27 => ?_) (fun h27 => ?_)
    ·
     refine wR (wP (Value.agg #[(vS sZ), (vI 0)]) ?_)
     refine WL.store (v := (Value.agg #[(vS sZ), (vI 0)])) (cs := [(vS sZ), (vI 0)]) (c' := #[(vS sZ), (vI 0)]) M 2 rfl rfl Try.el41.sized rfl rfl rfl rfl (nL rfl) (cC rfl (cC rfl cel_nil)) rfl rfl (fun w28 M => ?_)
     refine wA (vB false) (WL.nil ?_)
     refine W.ret ?_
     refine ⟨.inl rfl, (Value.tuple #[(Value.agg #[(vS sZ), (vI 0)]), (vB false)]), ?_, ?_⟩
     · exact ⟨rfl, (Res.r2 (RV.cellN Try.ag41 rfl (M.blk 2 rfl) rfl) (show RV _ _ _ (.tmp 5) (vB false) from by exact rfl))⟩
     refine ⟨?_, M.close [1] rfl (by decide) trivial⟩
     rw [peek2 hu_ (by assumption)]
     rw [chk_out (by simpa using h27)]; rfl
    ·
     refine W.skip (wR (wS (Value.agg #[(vS (((beforeL row (startS s)).1).key)), (vI (((beforeL row (startS s)).1).val))]) rfl (Step.loadN Try.ag41 rfl (M.blk 0 rfl) (nL rfl) rfl) ?_))
     refine WL.store (v := (Value.agg #[(vS (((beforeL row (startS s)).1).key)), (vI (((beforeL row (startS s)).1).val))])) (cs := [(vS (((beforeL row (startS s)).1).key)), (vI (((beforeL row (startS s)).1).val))]) (c' := #[(vS (((beforeL row (startS s)).1).key)), (vI (((beforeL row (startS s)).1).val))]) M 2 rfl rfl Try.el41.sized rfl rfl rfl rfl (nL rfl) (cC rfl (cC rfl cel_nil)) rfl rfl (fun w29 M => ?_)
     refine wA (vB true) (WL.nil ?_)
     refine W.ret ?_
     refine ⟨.inl rfl, (Value.tuple #[(Value.agg #[(vS (((beforeL row (startS s)).1).key)), (vI (((beforeL row (startS s)).1).val))]), (vB true)]), ?_, ?_⟩
     · exact ⟨rfl, (Res.r2 (RV.cellN Try.ag41 rfl (M.blk 2 rfl) rfl) (show RV _ _ _ (.tmp 5) (vB true) from by exact rfl))⟩
     refine ⟨?_, M.close [1] rfl (by decide) trivial⟩
     rw [peek2 hu_ (by assumption)]
     rw [chk_in (by simpa using h24) (by simpa using h27)]; first | rfl | (simp_all; done)
  ·
   rcases Bool.eq_false_or_eq_true (look3 s) with h30 | h30
   ·
    refine WL.callX rfl (sc_look3 sb s tb h30 (M.enterW0 ⟨(M.wideR0 0 rfl), trivial⟩)) (CallsF.func Try.en57 rfl) ?_
    rintro _ w31 ⟨rfl, m⟩
    replace M := M.leaveW0 m
    clear m
    refine wM (vP sb) ?_
    refine WL.callX rfl (sc_start sb s (M.enterW0 ⟨(M.wideR0 0 rfl), trivial⟩)) (CallsF.func Try.en58 rfl) ?_
    rintro _ w32 ⟨rfl, m⟩
    replace M := M.leaveW0 m
    clear m
    have fq := M.frm [tT S tb row c] [bk b1 #[(vS sZ), (vI 0)] 41] [1, 0] rfl
    refine WL.callX rfl (T_after tb S row c (startS s) (by first | assumption | omega) (M.eF fq trivial)) (CallsF.value Try.en72 rfl rfl rfl) ?_
    rintro _ w33 ⟨rfl, m⟩
    replace M := M.lF fq m
    clear m
    refine wM (Value.tuple #[(Value.agg #[(vS (((afterL row (startS s)).1).key)), (vI (((afterL row (startS s)).1).val))]), (vB ((afterL row (startS s)).2))]) (wP (Value.agg #[(vS (((afterL row (startS s)).1).key)), (vI (((afterL row (startS s)).1).val))]) (wP (vB ((afterL row (startS s)).2)) ?_))
    refine WL.alloc (c := #[(vS sZ), (vI 0)]) M rfl Try.el41.zero rfl (fun b34 w35 hb34 M => ?_)
    refine WL.store (v := (Value.agg #[(vS (((afterL row (startS s)).1).key)), (vI (((afterL row (startS s)).1).val))])) (cs := [(vS (((afterL row (startS s)).1).key)), (vI (((afterL row (startS s)).1).val))]) (c' := #[(vS (((afterL row (startS s)).1).key)), (vI (((afterL row (startS s)).1).val))]) M 0 rfl rfl Try.el41.sized rfl rfl rfl rfl (nL rfl) (cC rfl (cC rfl cel_nil)) rfl rfl (fun w36 M => ?_)
    refine wA (vB ((afterL row (startS s)).2)) (WL.nil (W.seq' (wR (wM (vB ((afterL row (startS s)).2)) (wP (vB (!((afterL row (startS s)).2))) (wM (vB (!((afterL row (startS s)).2))) ?_))))))
    rcases Bool.eq_false_or_eq_true (!((afterL row (startS s)).2)) with h37 | h37
    ·
     rw [h37]
     refine WL.pass rfl (WL.pass rfl (WL.pass rfl (WL.pass rfl (WL.pass rfl (wS (vB true) rfl (Step.pick (t := true) rfl rfl) (WL.nil ?_))))))
     refine W.cond (t := true) rfl (fun _ => ?_) (fun h => by cases h)
     refine wR (wP (Value.agg #[(vS sZ), (vI 0)]) ?_)
     refine WL.store (v := (Value.agg #[(vS sZ), (vI 0)])) (cs := [(vS sZ), (vI 0)]) (c' := #[(vS sZ), (vI 0)]) M 2 rfl rfl Try.el41.sized rfl rfl rfl rfl (nL rfl) (cC rfl (cC rfl cel_nil)) rfl rfl (fun w38 M => ?_)
     refine wA (vB false) (WL.nil ?_)
     refine W.ret ?_
     refine ⟨.inl rfl, (Value.tuple #[(Value.agg #[(vS sZ), (vI 0)]), (vB false)]), ?_, ?_⟩
     · exact ⟨rfl, (Res.r2 (RV.cellN Try.ag41 rfl (M.blk 2 rfl) rfl) (show RV _ _ _ (.tmp 5) (vB false) from by exact rfl))⟩
     refine ⟨?_, M.close [1] rfl (by decide) trivial⟩
     rw [peek3 hu_ (by assumption)]
     rw [chk_miss (by simpa using h37)]; rfl
    ·
     rw [h37]
     refine wM (vP sb) (wP (vP b34) (wS (vS (((afterL row (startS s)).1).key)) rfl (Step.load1 Try.sc9 rfl ((M.cell 0 rfl 0).trans rfl)) ?_))
     refine WL.callX rfl (sc_within sb s (((afterL row (startS s)).1).key) (M.enterW0 ⟨(M.wideR0 0 rfl), trivial⟩)) (CallsF.func Try.en59 rfl) ?_
     rintro _ w39 ⟨rfl, m⟩
     replace M := M.leaveW0 m
     clear m
     refine wP (vB (!(withinS s (((afterL row (startS s)).1).key)))) (wS (vB (!(withinS s (((afterL row (startS s)).1).key)))) rfl (Step.pick (t := false) rfl rfl) (WL.nil ?_))
     refine W.cond (t := !(withinS s (((afterL row (startS s)).1).key))) rfl (fun h40 => ?_) (fun h40 => ?_)
     ·
      refine wR (wP (Value.agg #[(vS sZ), (vI 0)]) ?_)
      refine WL.store (v := (Value.agg #[(vS sZ), (vI 0)])) (cs := [(vS sZ), (vI 0)]) (c' := #[(vS sZ), (vI 0)]) M 2 rfl rfl Try.el41.sized rfl rfl rfl rfl (nL rfl) (cC rfl (cC rfl cel_nil)) rfl rfl (fun w41 M => ?_)
      refine wA (vB false) (WL.nil ?_)
      refine W.ret ?_
      refine ⟨.inl rfl, (Value.tuple #[(Value.agg #[(vS sZ), (vI 0)]), (vB false)]), ?_, ?_⟩
      · exact ⟨rfl, (Res.r2 (RV.cellN Try.ag41 rfl (M.blk 2 rfl) rfl) (show RV _ _ _ (.tmp 5) (vB false) from by exact rfl))⟩
      refine ⟨?_, M.close [1] rfl (by decide) trivial⟩
      rw [peek3 hu_ (by assumption)]
      rw [chk_out (by simpa using h40)]; rfl
     ·
      refine W.skip (wR (wS (Value.agg #[(vS (((afterL row (startS s)).1).key)), (vI (((afterL row (startS s)).1).val))]) rfl (Step.loadN Try.ag41 rfl (M.blk 0 rfl) (nL rfl) rfl) ?_))
      refine WL.store (v := (Value.agg #[(vS (((afterL row (startS s)).1).key)), (vI (((afterL row (startS s)).1).val))])) (cs := [(vS (((afterL row (startS s)).1).key)), (vI (((afterL row (startS s)).1).val))]) (c' := #[(vS (((afterL row (startS s)).1).key)), (vI (((afterL row (startS s)).1).val))]) M 2 rfl rfl Try.el41.sized rfl rfl rfl rfl (nL rfl) (cC rfl (cC rfl cel_nil)) rfl rfl (fun w42 M => ?_)
      refine wA (vB true) (WL.nil ?_)
      refine W.ret ?_
      refine ⟨.inl rfl, (Value.tuple #[(Value.agg #[(vS (((afterL row (startS s)).1).key)), (vI (((afterL row (startS s)).1).val))]), (vB true)]), ?_, ?_⟩
      · exact ⟨rfl, (Res.r2 (RV.cellN Try.ag41 rfl (M.blk 2 rfl) rfl) (show RV _ _ _ (.tmp 5) (vB true) from by exact rfl))⟩
      refine ⟨?_, M.close [1] rfl (by decide) trivial⟩
      rw [peek3 hu_ (by assumption)]
      rw [chk_in (by simpa using h37) (by simpa using h40)]; first | rfl | (simp_all; done)
   ·
    refine WL.callX rfl (sc_look4 sb s tb (look_all h3 h17 h30) (M.enterW0 ⟨(M.wideR0 0 rfl), trivial⟩)) (CallsF.func Try.en57 rfl) ?_
    rintro _ w43 ⟨rfl, m⟩
    replace M := M.leaveW0 m
    clear m
    refine wM (vP sb) ?_
    refine WL.callX rfl (sc_start sb s (M.enterW0 ⟨(M.wideR0 0 rfl), trivial⟩)) (CallsF.func Try.en58 rfl) ?_
    rintro _ w44 ⟨rfl, m⟩
    replace M := M.leaveW0 m
    clear m
    have fq := M.frm [tT S tb row c] [bk b1 #[(vS sZ), (vI 0)] 41] [1, 0] rfl
    refine WL.callX rfl (T_from tb S row c (startS s) (by first | assumption | omega) (M.eF fq trivial)) (CallsF.value Try.en45 rfl rfl rfl) ?_
    rintro _ w45 ⟨rfl, m⟩
    replace M := M.lF fq m
    clear m
    refine wM (Value.tuple #[(Value.agg #[(vS (((fromL row (startS s)).1).key)), (vI (((fromL row (startS s)).1).val))]), (vB ((fromL row (startS s)).2))]) (wP (Value.agg #[(vS (((fromL row (startS s)).1).key)), (vI (((fromL row (startS s)).1).val))]) (wP (vB ((fromL row (startS s)).2)) ?_))
    refine WL.alloc (c := #[(vS sZ), (vI 0)]) M rfl Try.el41.zero rfl (fun b46 w47 hb46 M => ?_)
    refine WL.store (v := (Value.agg #[(vS (((fromL row (startS s)).1).key)), (vI (((fromL row (startS s)).1).val))])) (cs := [(vS (((fromL row (startS s)).1).key)), (vI (((fromL row (startS s)).1).val))]) (c' := #[(vS (((fromL row (startS s)).1).key)), (vI (((fromL row (startS s)).1).val))]) M 0 rfl rfl Try.el41.sized rfl rfl rfl rfl (nL rfl) (cC rfl (cC rfl cel_nil)) rfl rfl (fun w48 M => ?_)
    refine wA (vB ((fromL row (startS s)).2)) (WL.nil (W.seq' (wR (wM (vB ((fromL row (startS s)).2)) (wP (vB (!((fromL row (startS s)).2))) (wM (vB (!((fromL row (startS s)).2))) ?_))))))
    rcases Bool.eq_false_or_eq_true (!((fromL row (startS s)).2)) with h49 | h49
    ·
     rw [h49]
     refine WL.pass rfl (WL.pass rfl (WL.pass rfl (WL.pass rfl (WL.pass rfl (wS (vB true) rfl (Step.pick (t := true) rfl rfl) (WL.nil ?_))))))
     refine W.cond (t := true) rfl (fun _ => ?_) (fun h => by cases h)
     refine wR (wP (Value.agg #[(vS sZ), (vI 0)]) ?_)
     refine WL.store (v := (Value.agg #[(vS sZ), (vI 0)])) (cs := [(vS sZ), (vI 0)]) (c' := #[(vS sZ), (vI 0)]) M 2 rfl rfl Try.el41.sized rfl rfl rfl rfl (nL rfl) (cC rfl (cC rfl cel_nil)) rfl rfl (fun w50 M => ?_)
     refine wA (vB false) (WL.nil ?_)
     refine W.ret ?_
     refine ⟨.inl rfl, (Value.tuple #[(Value.agg #[(vS sZ), (vI 0)]), (vB false)]), ?_, ?_⟩
     · exact ⟨rfl, (Res.r2 (RV.cellN Try.ag41 rfl (M.blk 2 rfl) rfl) (show RV _ _ _ (.tmp 5) (vB false) from by exact rfl))⟩
     refine ⟨?_, M.close [1] rfl (by decide) trivial⟩
     rw [peek4 hu_ (by first | assumption | exact look_all (by assumption) (by assumption) (by assumption))]
     rw [chk_miss (by simpa using h49)]; rfl
    ·
     rw [h49]
     refine wM (vP sb) (wP (vP b46) (wS (vS (((fromL row (startS s)).1).key)) rfl (Step.load1 Try.sc9 rfl ((M.cell 0 rfl 0).trans rfl)) ?_))
     refine WL.callX rfl (sc_within sb s (((fromL row (startS s)).1).key) (M.enterW0 ⟨(M.wideR0 0 rfl), trivial⟩)) (CallsF.func Try.en59 rfl) ?_
     rintro _ w51 ⟨rfl, m⟩
     replace M := M.leaveW0 m
     clear m
     refine wP (vB (!(withinS s (((fromL row (startS s)).1).key)))) (wS (vB (!(withinS s (((fromL row (startS s)).1).key)))) rfl (Step.pick (t := false) rfl rfl) (WL.nil ?_))
     refine W.cond (t := !(withinS s (((fromL row (startS s)).1).key))) rfl (fun h52 => ?_) (fun h52 => ?_)
     ·
      refine wR (wP (Value.agg #[(vS sZ), (vI 0)]) ?_)
      refine WL.store (v := (Value.agg #[(vS sZ), (vI 0)])) (cs := [(vS sZ), (vI 0)]) (c' := #[(vS sZ), (vI 0)]) M 2 rfl rfl Try.el41.sized rfl rfl rfl rfl (nL rfl) (cC rfl (cC rfl cel_nil)) rfl rfl (fun w53 M => ?_)
      refine wA (vB false) (WL.nil ?_)
      refine W.ret ?_
      refine ⟨.inl rfl, (Value.tuple #[(Value.agg #[(vS sZ), (vI 0)]), (vB false)]), ?_, ?_⟩
      · exact ⟨rfl, (Res.r2 (RV.cellN Try.ag41 rfl (M.blk 2 rfl) rfl) (show RV _ _ _ (.tmp 5) (vB false) from by exact rfl))⟩
      refine ⟨?_, M.close [1] rfl (by decide) trivial⟩
      rw [peek4 hu_ (by first | assumption | exact look_all (by assumption) (by assumption) (by assumption))]
      rw [chk_out (by simpa using h52)]; rfl
     ·
      refine W.skip (wR (wS (Value.agg #[(vS (((fromL row (startS s)).1).key)), (vI (((fromL row (startS s)).1).val))]) rfl (Step.loadN Try.ag41 rfl (M.blk 0 rfl) (nL rfl) rfl) ?_))
      refine WL.store (v := (Value.agg #[(vS (((fromL row (startS s)).1).key)), (vI (((fromL row (startS s)).1).val))])) (cs := [(vS (((fromL row (startS s)).1).key)), (vI (((fromL row (startS s)).1).val))]) (c' := #[(vS (((fromL row (startS s)).1).key)), (vI (((fromL row (startS s)).1).val))]) M 2 rfl rfl Try.el41.sized rfl rfl rfl rfl (nL rfl) (cC rfl (cC rfl cel_nil)) rfl rfl (fun w54 M => ?_)
      refine wA (vB true) (WL.nil ?_)
      refine W.ret ?_
      refine ⟨.inl rfl, (Value.tuple #[(Value.agg #[(vS (((fromL row (startS s)).1).key)), (vI (((fromL row (startS s)).1).val))]), (vB true)]), ?_, ?_⟩
      · exact ⟨rfl, (Res.r2 (RV.cellN Try.ag41 rfl (M.blk 2 rfl) rfl) (show RV _ _ _ (.tmp 5) (vB true) from by exact rfl))⟩
      refine ⟨?_, M.close [1] rfl (by decide) trivial⟩
      rw [peek4 hu_ (by first | assumption | exact look_all (by assumption) (by assumption) (by assumption))]
      rw [chk_in (by simpa using h49) (by simpa using h52)]; first | rfl | (simp_all; done)
theorem sc_peek_n {G : Nat → Prop} {w : World} (t : Value)   (M : Mem G (fun _ => False) w [] [] w) : Rets Try.prog 25 #[vN, t] w fun r w' => r = (Value.tuple #[(Value.agg #[(vS sZ), (vI 0)]), (vB false)]) ∧ Mem G (fun _ => False) w [] [] w' := by
 refine Rets.enter 35 _ Try.func25 rfl Try.ntmps25 Try.results25 (by simp) ?_
 refine wR ?_
 refine WL.alloc (c := #[(vS sZ), (vI 0)]) M rfl Try.el41.zero rfl (fun b1 w2 hb1 M => ?_)
 refine wA (vB false) (WL.nil (W.seq' (wR (wM vN (wP (vB true) (wM (vB true) (WL.pass rfl (WL.pass rfl (wS (vB true) rfl (Step.pick (t := true) rfl rfl) (WL.nil ?_))))))))))
 refine W.cond (t := true) rfl (fun _ => ?_) (fun h => by cases h)
 refine wR (wP (Value.agg #[(vS sZ), (vI 0)]) ?_)
 refine WL.store (v := (Value.agg #[(vS sZ), (vI 0)])) (cs := [(vS sZ), (vI 0)]) (c' := #[(vS sZ), (vI 0)]) M 0 rfl rfl Try.el41.sized rfl rfl rfl rfl (nL rfl) (cC rfl (cC rfl cel_nil)) rfl rfl (fun w3 M => ?_)
 refine wA (vB false) (WL.nil ?_)
 refine W.ret ?_
 refine ⟨.inl rfl, (Value.tuple #[(Value.agg #[(vS sZ), (vI 0)]), (vB false)]), ?_, ?_⟩
 · exact ⟨rfl, (Res.r2 (RV.cellN Try.ag41 rfl (M.blk 0 rfl) rfl) (show RV _ _ _ (.tmp 5) (vB false) from by exact rfl))⟩
 refine ⟨?_, M.close [] rfl (by decide) trivial⟩
 rfl
theorem sc_peek_0 {G : Nat → Prop} {w : World} (sb : Nat)   (M : Mem G (fun _ => False) w [] [] w) : Rets Try.prog 25 #[(vP sb), vN] w fun r w' => r = (Value.tuple #[(Value.agg #[(vS sZ), (vI 0)]), (vB false)]) ∧ Mem G (fun _ => False) w [] [] w' := by
 refine Rets.enter 35 _ Try.func25 rfl Try.ntmps25 Try.results25 (by simp) ?_
 refine wR ?_
 refine WL.alloc (c := #[(vS sZ), (vI 0)]) M rfl Try.el41.zero rfl (fun b1 w2 hb1 M => ?_)
 refine wA (vB false) (WL.nil (W.seq' (wR (wM (vP sb) (wP (vB false) (wM (vB false) (wM vN (wP (vB true) (wS (vB true) rfl (Step.pick (t := false) rfl rfl) (WL.nil ?_))))))))))
 refine W.cond (t := true) rfl (fun _ => ?_) (fun h => by cases h)
 refine wR (wP (Value.agg #[(vS sZ), (vI 0)]) ?_)
 refine WL.store (v := (Value.agg #[(vS sZ), (vI 0)])) (cs := [(vS sZ), (vI 0)]) (c' := #[(vS sZ), (vI 0)]) M 0 rfl rfl Try.el41.sized rfl rfl rfl rfl (nL rfl) (cC rfl (cC rfl cel_nil)) rfl rfl (fun w3 M => ?_)
 refine wA (vB false) (WL.nil ?_)
 refine W.ret ?_
 refine ⟨.inl rfl, (Value.tuple #[(Value.agg #[(vS sZ), (vI 0)]), (vB false)]), ?_, ?_⟩
 · exact ⟨rfl, (Res.r2 (RV.cellN Try.ag41 rfl (M.blk 0 rfl) rfl) (show RV _ _ _ (.tmp 5) (vB false) from by exact rfl))⟩
 refine ⟨?_, M.close [] rfl (by decide) trivial⟩
 rfl
theorem sc_next {G X : Nat → Prop} {w : World} (sb : Nat) (s : Scn) (tb : Nat) (S : Nat → Prop) (row : List THit) (c : Nat)  (hc : c ≤ 900) (M : Mem G X w [bk sb #[(vS s.frm), (vS s.to_), (vB s.back), (vS s.at_), (vB s.told)] 88, tT S tb row c] [] w) : Rets Try.prog 24 #[(vP sb), (vP tb)] w fun r w' => r = (Value.tuple #[(Value.agg #[(vS (((peekR s row).1).key)), (vI (((peekR s row).1).val))]), (vB ((peekR s row).2))]) ∧ Mem G X w [bk sb #[(vS ((nextR s row).frm)), (vS ((nextR s row).to_)), (vB ((nextR s row).back)), (vS ((nextR s row).at_)), (vB ((nextR s row).told))] 88, tT S tb row c] [] w' := by
 refine Rets.enter 25 _ Try.func24 rfl Try.ntmps24 Try.results24 (by simp) ?_
 refine wR ?_
 refine WL.alloc (c := #[(vS sZ), (vI 0)]) M rfl Try.el41.zero rfl (fun b1 w2 hb1 M => ?_)
 refine wA (vB false) (WL.nil (wR (wM (vP sb) (wM (vP tb) ?_))))
 have fq := M.frm [tT S tb row c] [bk b1 #[(vS sZ), (vI 0)] 41, bk sb #[(vS s.frm), (vS s.to_), (vB s.back), (vS s.at_), (vB s.told)] 88] [2, 0, 1] rfl
 refine WL.callX rfl (sc_peek sb s tb S row c (by first | assumption | omega) (M.eF fq ⟨(M.cF fq 1 rfl), trivial⟩)) (CallsF.func Try.en25 rfl) ?_
 rintro _ w3 ⟨rfl, m⟩
 replace M := M.lF fq m
 clear m
 refine wM (Value.tuple #[(Value.agg #[(vS (((peekR s row).1).key)), (vI (((peekR s row).1).val))]), (vB ((peekR s row).2))]) (wP (Value.agg #[(vS (((peekR s row).1).key)), (vI (((peekR s row).1).val))]) (wP (vB ((peekR s row).2)) ?_))
 refine WL.alloc (c := #[(vS sZ), (vI 0)]) M rfl Try.el41.zero rfl (fun b4 w5 hb4 M => ?_)
 refine WL.store (v := (Value.agg #[(vS (((peekR s row).1).key)), (vI (((peekR s row).1).val))])) (cs := [(vS (((peekR s row).1).key)), (vI (((peekR s row).1).val))]) (c' := #[(vS (((peekR s row).1).key)), (vI (((peekR s row).1).val))]) M 0 rfl rfl Try.el41.sized rfl rfl rfl rfl (nL rfl) (cC rfl (cC rfl cel_nil)) rfl rfl (fun w6 M => ?_)
 refine wA (vB ((peekR s row).2)) (WL.nil (W.seq' (wR (wM (vB ((peekR s row).2)) (WL.nil ?_)))))
 refine W.cond (t := (peekR s row).2) rfl (fun h7 => ?_) (fun h7 => ?_)
 ·
  refine W.region rfl (wM (vP sb) (wM (vP sb) (wP (vP b4) (wS (vS (((peekR s row).1).key)) rfl (Step.load1 Try.sc9 rfl ((M.cell 0 rfl 0).trans rfl)) (wP (vP sb) (wP (Value.pointer (some ⟨sb, 3, none⟩)) ?_))))))
  refine WL.store (v := (vS (((peekR s row).1).key))) (cs := [(vS (((peekR s row).1).key))]) (c' := #[(vS s.frm), (vS s.to_), (vB s.back), (vS (((peekR s row).1).key)), (vB s.told)]) M 3 rfl rfl Try.el9.sized rfl rfl rfl rfl (nL rfl) (cC rfl cel_nil) rfl rfl (fun w8 M => ?_)
  refine wP (vP sb) (wP (Value.pointer (some ⟨sb, 4, none⟩)) ?_)
  refine WL.store (v := (vB true)) (cs := [(vB true)]) (c' := #[(vS s.frm), (vS s.to_), (vB s.back), (vS (((peekR s row).1).key)), (vB true)]) M 3 rfl rfl Try.el4.sized rfl rfl rfl rfl (nL rfl) (cC rfl cel_nil) rfl rfl (fun w9 M => ?_)
  refine WL.nil (wR (wS (Value.agg #[(vS (((peekR s row).1).key)), (vI (((peekR s row).1).val))]) rfl (Step.loadN Try.ag41 rfl (M.blk 0 rfl) (nL rfl) rfl) (wS (vB true) rfl (Step.cast (congrArg Value.bool h7) (Step.move rfl)) ?_)))
  refine WL.store (v := (Value.agg #[(vS (((peekR s row).1).key)), (vI (((peekR s row).1).val))])) (cs := [(vS (((peekR s row).1).key)), (vI (((peekR s row).1).val))]) (c' := #[(vS (((peekR s row).1).key)), (vI (((peekR s row).1).val))]) M 2 rfl rfl Try.el41.sized rfl rfl rfl rfl (nL rfl) (cC rfl (cC rfl cel_nil)) rfl rfl (fun w10 M => ?_)
  refine wA (vB true) (WL.nil ?_)
  refine W.ret ?_
  refine ⟨.inl rfl, (Value.tuple #[(Value.agg #[(vS (((peekR s row).1).key)), (vI (((peekR s row).1).val))]), (vB true)]), ?_, ?_⟩
  · exact ⟨rfl, (Res.r2 (RV.cellN Try.ag41 rfl (M.blk 2 rfl) rfl) (show RV _ _ _ (.tmp 5) (vB true) from by exact rfl))⟩
  have e11 : (bk sb #[(vS ((nextR s row).frm)), (vS ((nextR s row).to_)), (vB ((nextR s row).back)), (vS ((nextR s row).at_)), (vB ((nextR s row).told))] 88 : Chunk) = (bk sb #[(vS s.frm), (vS s.to_), (vB s.back), (vS (((peekR s row).1).key)), (vB true)] 88 : Chunk) := by
   rw [next_hit (by simpa using h7)]
  replace M := M.rechunk 3 (c' := bk sb #[(vS ((nextR s row).frm)), (vS ((nextR s row).to_)), (vB ((nextR s row).back)), (vS ((nextR s row).at_)), (vB ((nextR s row).told))] 88) rfl e11.symm
  refine ⟨?_, M.close [3, 1] rfl (by decide) trivial⟩
  rw [show (peekR s row).2 = true by simpa using h7]
 ·
  refine W.skip (wR (wS (Value.agg #[(vS (((peekR s row).1).key)), (vI (((peekR s row).1).val))]) rfl (Step.loadN Try.ag41 rfl (M.blk 0 rfl) (nL rfl) rfl) (wS (vB false) rfl (Step.cast (congrArg Value.bool h7) (Step.move rfl)) ?_)))
  refine WL.store (v := (Value.agg #[(vS (((peekR s row).1).key)), (vI (((peekR s row).1).val))])) (cs := [(vS (((peekR s row).1).key)), (vI (((peekR s row).1).val))]) (c' := #[(vS (((peekR s row).1).key)), (vI (((peekR s row).1).val))]) M 2 rfl rfl Try.el41.sized rfl rfl rfl rfl (nL rfl) (cC rfl (cC rfl cel_nil)) rfl rfl (fun w12 M => ?_)
  refine wA (vB false) (WL.nil ?_)
  refine W.ret ?_
  refine ⟨.inl rfl, (Value.tuple #[(Value.agg #[(vS (((peekR s row).1).key)), (vI (((peekR s row).1).val))]), (vB false)]), ?_, ?_⟩
  · exact ⟨rfl, (Res.r2 (RV.cellN Try.ag41 rfl (M.blk 2 rfl) rfl) (show RV _ _ _ (.tmp 5) (vB false) from by exact rfl))⟩
  have e13 : (bk sb #[(vS ((nextR s row).frm)), (vS ((nextR s row).to_)), (vB ((nextR s row).back)), (vS ((nextR s row).at_)), (vB ((nextR s row).told))] 88 : Chunk) = (bk sb #[(vS s.frm), (vS s.to_), (vB s.back), (vS s.at_), (vB s.told)] 88 : Chunk) := by
   rw [next_no (by simpa using h7)]
  replace M := M.rechunk 3 (c' := bk sb #[(vS ((nextR s row).frm)), (vS ((nextR s row).to_)), (vB ((nextR s row).back)), (vS ((nextR s row).at_)), (vB ((nextR s row).told))] 88) rfl e13.symm
  refine ⟨?_, M.close [3, 1] rfl (by decide) trivial⟩
  rw [show (peekR s row).2 = false by simpa using h7]
theorem sc_next_n {G : Nat → Prop} {w : World} (t : Value)   (M : Mem G (fun _ => False) w [] [] w) : Rets Try.prog 24 #[vN, t] w fun r w' => r = (Value.tuple #[(Value.agg #[(vS sZ), (vI 0)]), (vB false)]) ∧ Mem G (fun _ => False) w [] [] w' := by
 refine Rets.enter 25 _ Try.func24 rfl Try.ntmps24 Try.results24 (by simp) ?_
 refine wR ?_
 refine WL.alloc (c := #[(vS sZ), (vI 0)]) M rfl Try.el41.zero rfl (fun b1 w2 hb1 M => ?_)
 refine wA (vB false) (WL.nil (wR (wM vN (wM t ?_))))
 refine WL.callX rfl (sc_peek_n t (M.enterW0 trivial)) (CallsF.func Try.en25 rfl) ?_
 rintro _ w3 ⟨rfl, m⟩
 replace M := M.leaveW0 m
 clear m
 refine wM (Value.tuple #[(Value.agg #[(vS sZ), (vI 0)]), (vB false)]) (wP (Value.agg #[(vS sZ), (vI 0)]) (wP (vB false) ?_))
 refine WL.alloc (c := #[(vS sZ), (vI 0)]) M rfl Try.el41.zero rfl (fun b4 w5 hb4 M => ?_)
 refine WL.store (v := (Value.agg #[(vS sZ), (vI 0)])) (cs := [(vS sZ), (vI 0)]) (c' := #[(vS sZ), (vI 0)]) M 0 rfl rfl Try.el41.sized rfl rfl rfl rfl (nL rfl) (cC rfl (cC rfl cel_nil)) rfl rfl (fun w6 M => ?_)
 refine wA (vB false) (WL.nil (W.seq' (wR (wM (vB false) (WL.nil ?_)))))
 refine W.cond (t := false) rfl (fun h => by cases h) (fun _ => ?_)
 refine W.skip (wR (wS (Value.agg #[(vS sZ), (vI 0)]) rfl (Step.loadN Try.ag41 rfl (M.blk 0 rfl) (nL rfl) rfl) (wM (vB false) ?_)))
 refine WL.store (v := (Value.agg #[(vS sZ), (vI 0)])) (cs := [(vS sZ), (vI 0)]) (c' := #[(vS sZ), (vI 0)]) M 1 rfl rfl Try.el41.sized rfl rfl rfl rfl (nL rfl) (cC rfl (cC rfl cel_nil)) rfl rfl (fun w7 M => ?_)
 refine wA (vB false) (WL.nil ?_)
 refine W.ret ?_
 refine ⟨.inl rfl, (Value.tuple #[(Value.agg #[(vS sZ), (vI 0)]), (vB false)]), ?_, ?_⟩
 · exact ⟨rfl, (Res.r2 (RV.cellN Try.ag41 rfl (M.blk 1 rfl) rfl) (show RV _ _ _ (.tmp 5) (vB false) from by exact rfl))⟩
 refine ⟨?_, M.close [] rfl (by decide) trivial⟩
 rfl
theorem sc_next_0 {G X : Nat → Prop} {w : World} (sb : Nat) (s : Scn)   (M : Mem G X w [bk sb #[(vS s.frm), (vS s.to_), (vB s.back), (vS s.at_), (vB s.told)] 88] [] w) : Rets Try.prog 24 #[(vP sb), vN] w fun r w' => r = (Value.tuple #[(Value.agg #[(vS sZ), (vI 0)]), (vB false)]) ∧ Mem G X w [bk sb #[(vS s.frm), (vS s.to_), (vB s.back), (vS s.at_), (vB s.told)] 88] [] w' := by
 refine Rets.enter 25 _ Try.func24 rfl Try.ntmps24 Try.results24 (by simp) ?_
 refine wR ?_
 refine WL.alloc (c := #[(vS sZ), (vI 0)]) M rfl Try.el41.zero rfl (fun b1 w2 hb1 M => ?_)
 refine wA (vB false) (WL.nil (wR (wM (vP sb) (wM vN ?_))))
 refine WL.callX rfl (sc_peek_0 sb (M.enterW0 trivial)) (CallsF.func Try.en25 rfl) ?_
 rintro _ w3 ⟨rfl, m⟩
 replace M := M.leaveW0 m
 clear m
 refine wM (Value.tuple #[(Value.agg #[(vS sZ), (vI 0)]), (vB false)]) (wP (Value.agg #[(vS sZ), (vI 0)]) (wP (vB false) ?_))
 refine WL.alloc (c := #[(vS sZ), (vI 0)]) M rfl Try.el41.zero rfl (fun b4 w5 hb4 M => ?_)
 refine WL.store (v := (Value.agg #[(vS sZ), (vI 0)])) (cs := [(vS sZ), (vI 0)]) (c' := #[(vS sZ), (vI 0)]) M 0 rfl rfl Try.el41.sized rfl rfl rfl rfl (nL rfl) (cC rfl (cC rfl cel_nil)) rfl rfl (fun w6 M => ?_)
 refine wA (vB false) (WL.nil (W.seq' (wR (wM (vB false) (WL.nil ?_)))))
 refine W.cond (t := false) rfl (fun h => by cases h) (fun _ => ?_)
 refine W.skip (wR (wS (Value.agg #[(vS sZ), (vI 0)]) rfl (Step.loadN Try.ag41 rfl (M.blk 0 rfl) (nL rfl) rfl) (wM (vB false) ?_)))
 refine WL.store (v := (Value.agg #[(vS sZ), (vI 0)])) (cs := [(vS sZ), (vI 0)]) (c' := #[(vS sZ), (vI 0)]) M 1 rfl rfl Try.el41.sized rfl rfl rfl rfl (nL rfl) (cC rfl (cC rfl cel_nil)) rfl rfl (fun w7 M => ?_)
 refine wA (vB false) (WL.nil ?_)
 refine W.ret ?_
 refine ⟨.inl rfl, (Value.tuple #[(Value.agg #[(vS sZ), (vI 0)]), (vB false)]), ?_, ?_⟩
 · exact ⟨rfl, (Res.r2 (RV.cellN Try.ag41 rfl (M.blk 1 rfl) rfl) (show RV _ _ _ (.tmp 5) (vB false) from by exact rfl))⟩
 refine ⟨?_, M.close [2] rfl (by decide) trivial⟩
 rfl
end Go.Proofs
set_option maxRecDepth 100000
namespace Go.Proofs
open Go Tp
theorem Try.ag88 : Aggr Try.prog 88 5 := ⟨fun _ => by kernel_rfl, fun _ => by kernel_rfl⟩
theorem Try.el88 : Elem Try.prog 88 (Value.agg #[(vS sZ), (vS sZ), (vB false), (vS sZ), (vB false)]) 5 64 := Elem.mk (by kernel_rfl)
theorem sc_at {G : Nat → Prop} {w : World} (sb : Nat) (s : Scn)   (M : Mem G (fun _ => False) w [] [bF sb #[(vS s.frm), (vS s.to_), (vB s.back), (vS s.at_), (vB s.told)] 88] w) : Rets Try.prog 22 #[(vP sb)] w fun r w' => r = (Value.tuple #[(vS s.at_), (vB s.told)]) ∧ Mem G (fun _ => False) w [] [] w' := by
 refine Rets.enter 14 _ Try.func22 rfl Try.ntmps22 Try.results22 (by simp) ?_
 refine wR (wA (vS sZ) (wA (vB false) (WL.nil (W.seq' (wR (wM (vP sb) (wP (vB false) (WL.nil ?_))))))))
 refine W.cond (t := false) rfl (fun h => by cases h) (fun _ => ?_)
 refine W.skip (W.seq' ?_)
 refine W.drawn M [0, 1, 2, 3, 4, 5, 6, 7, 8, 9] [] [] _ _ sE (fun _ h => h) Try.mixed (by kernel_rfl) ?_
 refine tM (vP sb) rfl (tQ (vP sb) rfl (tQ (Value.pointer (some ⟨sb, 3, none⟩)) rfl (tR (vS s.at_) rfl (fun A w M => (Step.load1 Try.sc9 rfl ((cell_blk (M.rep 0 rfl) 3).trans rfl))) (tM (vP sb) rfl (tQ (vP sb) rfl (tQ (Value.pointer (some ⟨sb, 4, none⟩)) rfl (tR (vB s.told) rfl (fun A w M => (Step.load1 Try.sc4 rfl ((cell_blk (M.rep 0 rfl) 4).trans rfl))) (tP (vS s.at_) rfl (fun w => (Step.assign rfl)) (tP (vB s.told) rfl (fun w => (Step.assign rfl)) ?_)))))))))
 refine TW.done (fun w1 M => ?_)
 refine W.ret ?_
 refine ⟨.inl rfl, (Value.tuple #[(vS s.at_), (vB s.told)]), ?_, ?_⟩
 · exact ⟨rfl, (Res.r2 (show RV _ _ _ (.tmp 2) (vS s.at_) from by exact rfl) (show RV _ _ _ (.tmp 3) (vB s.told) from by exact rfl))⟩
 refine ⟨?_, M.close [] rfl (by decide) trivial⟩
 rfl
theorem sc_at_n {G : Nat → Prop} {w : World}    (M : Mem G (fun _ => False) w [] [] w) : Rets Try.prog 22 #[vN] w fun r w' => r = (Value.tuple #[(vS sZ), (vB false)]) ∧ Mem G (fun _ => False) w [] [] w' := by
 refine Rets.enter 14 _ Try.func22 rfl Try.ntmps22 Try.results22 (by simp) ?_
 refine wR (wA (vS sZ) (wA (vB false) (WL.nil (W.seq' (wR (wM vN (wP (vB true) (WL.nil ?_))))))))
 refine W.cond (t := true) rfl (fun _ => ?_) (fun h => by cases h)
 refine wR (wA (vS sZ) (wA (vB false) (WL.nil ?_)))
 refine W.ret ?_
 refine ⟨.inl rfl, (Value.tuple #[(vS sZ), (vB false)]), ?_, ?_⟩
 · exact ⟨rfl, (Res.r2 (show RV _ _ _ (.tmp 2) (vS sZ) from by exact rfl) (show RV _ _ _ (.tmp 3) (vB false) from by exact rfl))⟩
 refine ⟨?_, M.close [] rfl (by decide) trivial⟩
 rfl
theorem sc_copy {G : Nat → Prop} {w : World} (sb : Nat) (s : Scn)   (M : Mem G (fun _ => False) w [] [bF sb #[(vS s.frm), (vS s.to_), (vB s.back), (vS s.at_), (vB s.told)] 88] w) : Rets Try.prog 27 #[(vP sb)] w fun r w' => ∃ (sb' : Nat), r = (vP sb') ∧ Mem G (fun _ => False) w [bk sb' #[(vS s.frm), (vS s.to_), (vB s.back), (vS s.at_), (vB s.told)] 88] [] w' := by
 refine Rets.enter 9 _ Try.func27 rfl Try.ntmps27 Try.results27 (by simp) ?_
 refine wR (wA vN (WL.nil (W.seq' (wR (wM (vP sb) (wP (vB false) (WL.nil ?_)))))))
 refine W.cond (t := false) rfl (fun h => by cases h) (fun _ => ?_)
 refine W.skip (wR (wM (vP sb) (wP (vP sb) (wS (Value.agg #[(vS s.frm), (vS s.to_), (vB s.back), (vS s.at_), (vB s.told)]) rfl (Step.loadN Try.ag88 rfl (M.rep 0 rfl) (nL rfl) rfl) ?_))))
 refine WL.alloc (c := #[(vS sZ), (vS sZ), (vB false), (vS sZ), (vB false)]) M rfl Try.el88.zero rfl (fun b1 w2 hb1 M => ?_)
 refine WL.store (v := (Value.agg #[(vS s.frm), (vS s.to_), (vB s.back), (vS s.at_), (vB s.told)])) (cs := [(vS s.frm), (vS s.to_), (vB s.back), (vS s.at_), (vB s.told)]) (c' := #[(vS s.frm), (vS s.to_), (vB s.back), (vS s.at_), (vB s.told)]) M 0 rfl rfl Try.el88.sized rfl rfl rfl rfl (nL rfl) (cC rfl (cC rfl (cC rfl (cC rfl (cC rfl cel_nil))))) rfl rfl (fun w3 M => ?_)
 refine WL.nil (wR (wA (vP b1) (WL.nil ?_)))
 refine W.ret ?_
 refine ⟨.inl rfl, (vP b1), ?_, ?_⟩
 · exact ⟨rfl, (Res.r1 (show RV _ _ _ (.tmp 2) (vP b1) from by exact rfl))⟩
 refine ⟨b1, ?_, M.close [0] rfl (by decide) trivial⟩
 rfl
theorem sc_copy_n {G : Nat → Prop} {w : World}    (M : Mem G (fun _ => False) w [] [] w) : Rets Try.prog 27 #[vN] w fun r w' => r = vN ∧ Mem G (fun _ => False) w [] [] w' := by
 refine Rets.enter 9 _ Try.func27 rfl Try.ntmps27 Try.results27 (by simp) ?_
 refine wR (wA vN (WL.nil (W.seq' (wR (wM vN (wP (vB true) (WL.nil ?_)))))))
 refine W.cond (t := true) rfl (fun _ => ?_) (fun h => by cases h)
 refine wR (wA vN (WL.nil ?_))
 refine W.ret ?_
 refine ⟨.inl rfl, vN, ?_, ?_⟩
 · exact ⟨rfl, (Res.r1 (show RV _ _ _ (.tmp 2) vN from by exact rfl))⟩
 refine ⟨?_, M.close [] rfl (by decide) trivial⟩
 rfl
theorem sc_skip {G X : Nat → Prop} {w : World} (sb : Nat) (s : Scn) (k : ByteArray)   (M : Mem G X w [bk sb #[(vS s.frm), (vS s.to_), (vB s.back), (vS s.at_), (vB s.told)] 88] [] w) : Rets Try.prog 26 #[(vP sb), (vS k)] w fun r w' => r = (vB ((skipS s k).2)) ∧ Mem G X w [bk sb #[(vS (((skipS s k).1).frm)), (vS (((skipS s k).1).to_)), (vB (((skipS s k).1).back)), (vS (((skipS s k).1).at_)), (vB (((skipS s k).1).told))] 88] [] w' := by
 refine Rets.enter 55 _ Try.func26 rfl Try.ntmps26 Try.results26 (by simp) ?_
 refine wR (wA (vB false) (WL.nil (W.seq' (W.block (wR (wM (vP sb) (wP (vB false) (wA (vB false) (WL.nil ?_)))))))))
 refine W.cond (t := false) rfl (fun h => by cases h) (fun _ => ?_)
 refine wR (wM (vP sb) (wP (vP sb) (wP (Value.pointer (some ⟨sb, 4, none⟩)) (wS (vB s.told) rfl (Step.load1 Try.sc4 rfl ((M.cell 0 rfl 4).trans rfl)) (wM (vB s.told) ?_)))))
 rcases Bool.eq_false_or_eq_true (s.told) with h1 | h1
 ·
  rw [h1]
  refine wM (vP sb) (wP (vP sb) (wP (Value.pointer (some ⟨sb, 2, none⟩)) (wS (vB s.back) rfl (Step.load1 Try.sc4 rfl ((M.cell 0 rfl 2).trans rfl)) (wP (vB !s.back) (wS (vB !s.back) rfl (Step.pick (t := true) rfl rfl) (wM (vB !s.back) ?_))))))
  rcases Bool.eq_false_or_eq_true (!s.back) with h2 | h2
  ·
   rw [h2]
   refine wM (vS k) (wM (vP sb) (wP (vP sb) (wP (Value.pointer (some ⟨sb, 3, none⟩)) (wS (vS s.at_) rfl (Step.load1 Try.sc9 rfl ((M.cell 0 rfl 3).trans rfl)) (wP (vB (sLt k s.at_ || k.toList == s.at_.toList)) (wS (vB (sLt k s.at_ || k.toList == s.at_.toList)) rfl (Step.pick (t := true) rfl rfl) (wM (vB (sLt k s.at_ || k.toList == s.at_.toList)) ?_)))))))
   rcases Bool.eq_false_or_eq_true (sLt k s.at_ || k.toList == s.at_.toList) with h3 | h3
   ·
    rw [h3]
    refine WL.pass rfl (WL.pass rfl (WL.pass rfl (WL.pass rfl (WL.pass rfl (WL.pass rfl (WL.pass rfl (WL.pass rfl (WL.pass rfl (WL.pass rfl (WL.pass rfl (WL.pass rfl (WL.pass rfl (WL.pass rfl (WL.pass rfl (WL.pass rfl (WL.pass rfl (WL.pass rfl (wS (vB true) rfl (Step.pick (t := true) rfl rfl) (wA (vB true) (WL.nil ?_))))))))))))))))))))
    refine W.cond (t := true) rfl (fun _ => ?_) (fun h => by cases h)
    refine wR (wA (vB false) (WL.nil ?_))
    refine W.ret ?_
    refine ⟨.inl rfl, (vB false), ?_, ?_⟩
    · exact ⟨rfl, (Res.r1 (show RV _ _ _ (.tmp 4) (vB false) from by exact rfl))⟩
    have e4 : (bk sb #[(vS (((skipS s k).1).frm)), (vS (((skipS s k).1).to_)), (vB (((skipS s k).1).back)), (vS (((skipS s k).1).at_)), (vB (((skipS s k).1).told))] 88 : Chunk) = (bk sb #[(vS s.frm), (vS s.to_), (vB s.back), (vS s.at_), (vB s.told)] 88 : Chunk) := by
     have hsk_ : (s.told && ((s.back && !(sLt k s.at_)) || (!s.back && !(sLt s.at_ k)))) = true := by
      (try simp only [sGt, sLe] at *); simp_all
     rw [skip_no hsk_]
    replace M := M.rechunk 0 (c' := bk sb #[(vS (((skipS s k).1).frm)), (vS (((skipS s k).1).to_)), (vB (((skipS s k).1).back)), (vS (((skipS s k).1).at_)), (vB (((skipS s k).1).told))] 88) rfl e4.symm
    refine ⟨?_, M.close [0] rfl (by decide) trivial⟩
    have hsk_ : (s.told && ((s.back && !(sLt k s.at_)) || (!s.back && !(sLt s.at_ k)))) = true := by
     (try simp only [sGt, sLe] at *); simp_all
    rw [skip_no hsk_]
   ·
    rw [h3]
    refine wM (vP sb) (wP (vP sb) (wP (Value.pointer (some ⟨sb, 4, none⟩)) (wS (vB true) rfl (Step.cast (congrArg Value.bool h1) (Step.load1 Try.sc4 rfl ((M.cell 0 rfl 4).trans rfl))) (wM (vB true) (wM (vP sb) (wP (vP sb) (wP (Value.pointer (some ⟨sb, 2, none⟩)) (wS (vB false) rfl (Step.cast (congrArg Value.bool (show (s.back) = false by simpa using h2)) (Step.load1 Try.sc4 rfl ((M.cell 0 rfl 2).trans rfl))) (wS (vB false) rfl (Step.pick (t := true) rfl rfl) (wM (vB false) (WL.pass rfl (WL.pass rfl (WL.pass rfl (WL.pass rfl (WL.pass rfl (WL.pass rfl (wS (vB false) rfl (Step.pick (t := false) rfl rfl) (wS (vB false) rfl (Step.pick (t := false) rfl rfl) (wA (vB false) (WL.nil ?_))))))))))))))))))))
    refine W.cond (t := false) rfl (fun h => by cases h) (fun _ => ?_)
    refine W.skip (wR (wM (vP sb) (wM (vP sb) (wM (vS k) (wP (vP sb) (wP (Value.pointer (some ⟨sb, 3, none⟩)) ?_))))))
    refine WL.store (v := (vS k)) (cs := [(vS k)]) (c' := #[(vS s.frm), (vS s.to_), (vB s.back), (vS k), (vB s.told)]) M 0 rfl rfl Try.el9.sized rfl rfl rfl rfl (nL rfl) (cC rfl cel_nil) rfl rfl (fun w5 M => ?_)
    refine wP (vP sb) (wP (Value.pointer (some ⟨sb, 4, none⟩)) ?_)
    refine WL.store (v := (vB true)) (cs := [(vB true)]) (c' := #[(vS s.frm), (vS s.to_), (vB s.back), (vS k), (vB true)]) M 0 rfl rfl Try.el4.sized rfl rfl rfl rfl (nL rfl) (cC rfl cel_nil) rfl rfl (fun w6 M => ?_)
    refine WL.nil (wR (wA (vB true) (WL.nil ?_)))
    refine W.ret ?_
    refine ⟨.inl rfl, (vB true), ?_, ?_⟩
    · exact ⟨rfl, (Res.r1 (show RV _ _ _ (.tmp 4) (vB true) from by exact rfl))⟩
    have e7 : (bk sb #[(vS (((skipS s k).1).frm)), (vS (((skipS s k).1).to_)), (vB (((skipS s k).1).back)), (vS (((skipS s k).1).at_)), (vB (((skipS s k).1).told))] 88 : Chunk) = (bk sb #[(vS s.frm), (vS s.to_), (vB s.back), (vS k), (vB true)] 88 : Chunk) := by
     have hsk_ : (s.told && ((s.back && !(sLt k s.at_)) || (!s.back && !(sLt s.at_ k)))) = false := by
      (try simp only [sGt, sLe] at *); simp_all
     rw [skip_yes hsk_]
    replace M := M.rechunk 0 (c' := bk sb #[(vS (((skipS s k).1).frm)), (vS (((skipS s k).1).to_)), (vB (((skipS s k).1).back)), (vS (((skipS s k).1).at_)), (vB (((skipS s k).1).told))] 88) rfl e7.symm
    refine ⟨?_, M.close [0] rfl (by decide) trivial⟩
    have hsk_ : (s.told && ((s.back && !(sLt k s.at_)) || (!s.back && !(sLt s.at_ k)))) = false := by
     (try simp only [sGt, sLe] at *); simp_all
    rw [skip_yes hsk_]
  ·
   rw [h2]
   refine WL.pass rfl (WL.pass rfl (WL.pass rfl (WL.pass rfl (WL.pass rfl (WL.pass rfl (wS (vB false) rfl (Step.pick (t := false) rfl rfl) (wM (vB false) (wM (vP sb) (wP (vP sb) (wP (Value.pointer (some ⟨sb, 4, none⟩)) (wS (vB true) rfl (Step.cast (congrArg Value.bool h1) (Step.load1 Try.sc4 rfl ((M.cell 0 rfl 4).trans rfl))) (wM (vB true) (wM (vP sb) (wP (vP sb) (wP (Value.pointer (some ⟨sb, 2, none⟩)) (wS (vB true) rfl (Step.cast (congrArg Value.bool (show (s.back) = true by simpa using h2)) (Step.load1 Try.sc4 rfl ((M.cell 0 rfl 2).trans rfl))) (wS (vB true) rfl (Step.pick (t := true) rfl rfl) (wM (vB true) (wM (vS k) (wM (vP sb) (wP (vP sb) (wP (Value.pointer (some ⟨sb, 3, none⟩)) (wS (vS s.at_) rfl (Step.load1 Try.sc9 rfl ((M.cell 0 rfl 3).trans rfl)) ?_)))))))))))))))))))))))
   refine wP (vB (!(sLt k s.at_))) (wS (vB (!(sLt k s.at_))) rfl (Step.pick (t := true) rfl rfl) (wS (vB (!(sLt k s.at_))) rfl (Step.pick (t := false) rfl rfl) (wA (vB (!(sLt k s.at_))) (WL.nil ?_))))
   refine W.cond (t := !(sLt k s.at_)) rfl (fun h8 => ?_) (fun h8 => ?_)
   ·
    refine wR (wA (vB false) (WL.nil ?_))
    refine W.ret ?_
    refine ⟨.inl rfl, (vB false), ?_, ?_⟩
    · exact ⟨rfl, (Res.r1 (show RV _ _ _ (.tmp 4) (vB false) from by exact rfl))⟩
    have e9 : (bk sb #[(vS (((skipS s k).1).frm)), (vS (((skipS s k).1).to_)), (vB (((skipS s k).1).back)), (vS (((skipS s k).1).at_)), (vB (((skipS s k).1).told))] 88 : Chunk) = (bk sb #[(vS s.frm), (vS s.to_), (vB s.back), (vS s.at_), (vB s.told)] 88 : Chunk) := by
     have hsk_ : (s.told && ((s.back && !(sLt k s.at_)) || (!s.back && !(sLt s.at_ k)))) = true := by
      (try simp only [sGt, sLe] at *); simp_all
     rw [skip_no hsk_]
    replace M := M.rechunk 0 (c' := bk sb #[(vS (((skipS s k).1).frm)), (vS (((skipS s k).1).to_)), (vB (((skipS s k).1).back)), (vS (((skipS s k).1).at_)), (vB (((skipS s k).1).told))] 88) rfl e9.symm
    refine ⟨?_, M.close [0] rfl (by decide) trivial⟩
    have hsk_ : (s.told && ((s.back && !(sLt k s.at_)) || (!s.back && !(sLt s.at_ k)))) = true := by
     (try simp only [sGt, sLe] at *); simp_all
    rw [skip_no hsk_]
   ·
    refine W.skip (wR (wM (vP sb) (wM (vP sb) (wM (vS k) (wP (vP sb) (wP (Value.pointer (some ⟨sb, 3, none⟩)) ?_))))))
    refine WL.store (v := (vS k)) (cs := [(vS k)]) (c' := #[(vS s.frm), (vS s.to_), (vB s.back), (vS k), (vB s.told)]) M 0 rfl rfl Try.el9.sized rfl rfl rfl rfl (nL rfl) (cC rfl cel_nil) rfl rfl (fun w10 M => ?_)
    refine wP (vP sb) (wP (Value.pointer (some ⟨sb, 4, none⟩)) ?_)
    refine WL.store (v := (vB true)) (cs := [(vB true)]) (c' := #[(vS s.frm), (vS s.to_), (vB s.back), (vS k), (vB true)]) M 0 rfl rfl Try.el4.sized rfl rfl rfl rfl (nL rfl) (cC rfl cel_nil) rfl rfl (fun w11 M => ?_)
    refine WL.nil (wR (wA (vB true) (WL.nil ?_)))
    refine W.ret ?_
    refine ⟨.inl rfl, (vB true), ?_, ?_⟩
    · exact ⟨rfl, (Res.r1 (show RV _ _ _ (.tmp 4) (vB true) from by exact rfl))⟩
    have e12 : (bk sb #[(vS (((skipS s k).1).frm)), (vS (((skipS s k).1).to_)), (vB (((skipS s k).1).back)), (vS (((skipS s k).1).at_)), (vB (((skipS s k).1).told))] 88 : Chunk) = (bk sb #[(vS s.frm), (vS s.to_), (vB s.back), (vS k), (vB true)] 88 : Chunk) := by
     have hsk_ : (s.told && ((s.back && !(sLt k s.at_)) || (!s.back && !(sLt s.at_ k)))) = false := by
      (try simp only [sGt, sLe] at *); simp_all
     rw [skip_yes hsk_]
    replace M := M.rechunk 0 (c' := bk sb #[(vS (((skipS s k).1).frm)), (vS (((skipS s k).1).to_)), (vB (((skipS s k).1).back)), (vS (((skipS s k).1).at_)), (vB (((skipS s k).1).told))] 88) rfl e12.symm
    refine ⟨?_, M.close [0] rfl (by decide) trivial⟩
    have hsk_ : (s.told && ((s.back && !(sLt k s.at_)) || (!s.back && !(sLt s.at_ k)))) = false := by
     (try simp only [sGt, sLe] at *); simp_all
    rw [skip_yes hsk_]
 ·
  rw [h1]
  refine WL.pass rfl (WL.pass rfl (WL.pass rfl (WL.pass rfl (WL.pass rfl (wS (vB false) rfl (Step.pick (t := false) rfl rfl) (wM (vB false) (WL.pass rfl (WL.pass rfl (WL.pass rfl (WL.pass rfl (WL.pass rfl (WL.pass rfl (wS (vB false) rfl (Step.pick (t := false) rfl rfl) (wM (vB false) (wM (vP sb) (wP (vP sb) (wP (Value.pointer (some ⟨sb, 4, none⟩)) (wS (vB false) rfl (Step.cast (congrArg Value.bool h1) (Step.load1 Try.sc4 rfl ((M.cell 0 rfl 4).trans rfl))) (wM (vB false) (WL.pass rfl (WL.pass rfl (WL.pass rfl (WL.pass rfl ?_)))))))))))))))))))))))
  refine wS (vB false) rfl (Step.pick (t := false) rfl rfl) (wM (vB false) (WL.pass rfl (WL.pass rfl (WL.pass rfl (WL.pass rfl (WL.pass rfl (WL.pass rfl (wS (vB false) rfl (Step.pick (t := false) rfl rfl) (wS (vB false) rfl (Step.pick (t := false) rfl rfl) (wA (vB false) (WL.nil ?_)))))))))))
  refine W.cond (t := false) rfl (fun h => by cases h) (fun _ => ?_)
  refine W.skip (wR (wM (vP sb) (wM (vP sb) (wM (vS k) (wP (vP sb) (wP (Value.pointer (some ⟨sb, 3, none⟩)) ?_))))))
  refine WL.store (v := (vS k)) (cs := [(vS k)]) (c' := #[(vS s.frm), (vS s.to_), (vB s.back), (vS k), (vB s.told)]) M 0 rfl rfl Try.el9.sized rfl rfl rfl rfl (nL rfl) (cC rfl cel_nil) rfl rfl (fun w13 M => ?_)
  refine wP (vP sb) (wP (Value.pointer (some ⟨sb, 4, none⟩)) ?_)
  refine WL.store (v := (vB true)) (cs := [(vB true)]) (c' := #[(vS s.frm), (vS s.to_), (vB s.back), (vS k), (vB true)]) M 0 rfl rfl Try.el4.sized rfl rfl rfl rfl (nL rfl) (cC rfl cel_nil) rfl rfl (fun w14 M => ?_)
  refine WL.nil (wR (wA (vB true) (WL.nil ?_)))
  refine W.ret ?_
  refine ⟨.inl rfl, (vB true), ?_, ?_⟩
  · exact ⟨rfl, (Res.r1 (show RV _ _ _ (.tmp 4) (vB true) from by exact rfl))⟩
  have e15 : (bk sb #[(vS (((skipS s k).1).frm)), (vS (((skipS s k).1).to_)), (vB (((skipS s k).1).back)), (vS (((skipS s k).1).at_)), (vB (((skipS s k).1).told))] 88 : Chunk) = (bk sb #[(vS s.frm), (vS s.to_), (vB s.back), (vS k), (vB true)] 88 : Chunk) := by
   have hsk_ : (s.told && ((s.back && !(sLt k s.at_)) || (!s.back && !(sLt s.at_ k)))) = false := by
    (try simp only [sGt, sLe] at *); simp_all
   rw [skip_yes hsk_]
  replace M := M.rechunk 0 (c' := bk sb #[(vS (((skipS s k).1).frm)), (vS (((skipS s k).1).to_)), (vB (((skipS s k).1).back)), (vS (((skipS s k).1).at_)), (vB (((skipS s k).1).told))] 88) rfl e15.symm
  refine ⟨?_, M.close [0] rfl (by decide) trivial⟩
  have hsk_ : (s.told && ((s.back && !(sLt k s.at_)) || (!s.back && !(sLt s.at_ k)))) = false := by
   (try simp only [sGt, sLe] at *); simp_all
  rw [skip_yes hsk_]
theorem sc_skip_n {G : Nat → Prop} {w : World} (k : ByteArray)   (M : Mem G (fun _ => False) w [] [] w) : Rets Try.prog 26 #[vN, (vS k)] w fun r w' => r = (vB false) ∧ Mem G (fun _ => False) w [] [] w' := by
 refine Rets.enter 55 _ Try.func26 rfl Try.ntmps26 Try.results26 (by simp) ?_
 refine wR (wA (vB false) (WL.nil (W.seq' (W.block (wR (wM vN (wP (vB true) (wA (vB true) (WL.nil ?_)))))))))
 refine W.cond (t := true) rfl (fun _ => ?_) (fun h => by cases h)
 refine wR (wA (vB false) (WL.nil ?_))
 refine W.ret ?_
 refine ⟨.inl rfl, (vB false), ?_, ?_⟩
 · exact ⟨rfl, (Res.r1 (show RV _ _ _ (.tmp 4) (vB false) from by exact rfl))⟩
 refine ⟨?_, M.close [] rfl (by decide) trivial⟩
 rfl
end Go.Proofs
set_option maxRecDepth 100000
namespace Go.Proofs
open Go Tp
theorem Try.en24 : Enters Try.prog 24 := fun _ _ => by kernel_rfl
theorem sc_page {G X : Nat → Prop} {w : World} (sb : Nat) (s : Scn) (tb : Nat) (S : Nat → Prop) (row : List THit) (c : Nat) (n : Int)  (hc : c ≤ 900) (M : Mem G X w [bk sb #[(vS s.frm), (vS s.to_), (vB s.back), (vS s.at_), (vB s.told)] 88, tT S tb row c] [] w) : Rets Try.prog 15 #[(vP sb), (vP tb), (vI n)] w fun r w' => ∃ (v' : Value), r = (Value.tuple #[v', (vB (pageD s row n))]) ∧ Mem G X w [bk sb #[(vS ((pageS s row n).frm)), (vS ((pageS s row n).to_)), (vB ((pageS s row n).back)), (vS ((pageS s row n).at_)), (vB ((pageS s row n).told))] 88, tT S tb row c, oR v' (pageL s row n)] [] w' := by
 refine Rets.enter 37 _ Try.func15 rfl Try.ntmps15 Try.results15 (by simp) ?_
 refine wR (wA vZ (wA (vB false) (WL.nil ?_)))
 refine W.scope ?_
 refine W.seq' ?_
 refine W.label ?_
 refine W.seq' (W.block ?_)
 obtain ⟨hu_, hrc_⟩ := tabC_up (M.chunk 1 rfl).inv
 have hrl_ := rest_le (s := s) (row := row)
 replace M := M.ownNil 41 2
 replace M := M.rechunk 0 (c' := oR vZ ((restR s row).take 0)) rfl rfl
 replace M := M.rechunk 1 (c' := bk sb #[(vS ((stepsN 0 s row).frm)), (vS ((stepsN 0 s row).to_)), (vB ((stepsN 0 s row).back)), (vS ((stepsN 0 s row).at_)), (vB ((stepsN 0 s row).told))] 88) rfl rfl
 refine W.loop (fun kk ρ w' => ∃ (j_ : Nat) (v_ : Value), (((j_ : Int) ≤ n ∨ j_ = 0) ∧ (j_ ≤ (restR s row).length) ∧ kk = (restR s row).length - j_) ∧ ρ.has [(0, (vP sb)), (1, (vP tb)), (2, (vI n)), (6, v_), (7, (vB false))] ∧ Mem G X w [oR v_ ((restR s row).take j_), bk sb #[(vS ((stepsN j_ s row).frm)), (vS ((stepsN j_ s row).to_)), (vB ((stepsN j_ s row).back)), (vS ((stepsN j_ s row).at_)), (vB ((stepsN j_ s row).told))] 88, tT S tb row c] []  w') _ ⟨0, _, ⟨(.inr rfl), (Nat.zero_le _), rfl⟩, ⟨rfl, rfl, rfl, rfl, rfl, rfl, rfl⟩, M⟩ ?_
 rintro _ ρ2 w1 ⟨j_, v_, ⟨hi3, hi4, rfl⟩, hρ, M⟩
 obtain ⟨ρ2, rfl⟩ := hρ.know
 clear hρ
 have sl5 : IsSl v_ := SlAt.isSl (oW (M.chunk 0 rfl).inv)
 have htk_ : ((restR s row).take j_).length = j_ := by rw [List.length_take]; omega
 have hacl : ((restR s row).take j_).length ≤ 400000 := by omega
 refine W.seq' (wR (wM v_ (wS (vI ↑j_) rfl (Step.cast (congrArg (Value.int .i64) (show (↑(((restR s row).take j_).length) : Int) = ↑j_ by omega)) (Step.lenSl Try.un34 rfl (oW (M.chunk 0 rfl).inv))) (wM (vI n) (wP (vB (decide ((↑j_ : Int) < (n : Int)))) (WL.nil ?_))))))
 refine W.cond (t := decide ((↑j_ : Int) < (n : Int))) rfl (fun h6 => ?_) (fun h6 => ?_)
 ·
  have h6p := dT h6
  refine W.skip (W.block (wR (wM (vP sb) (wM (vP tb) ?_))))
  have fq := M.frm [bk sb #[(vS ((stepsN j_ s row).frm)), (vS ((stepsN j_ s row).to_)), (vB ((stepsN j_ s row).back)), (vS ((stepsN j_ s row).at_)), (vB ((stepsN j_ s row).told))] 88, tT S tb row c] [oR v_ ((restR s row).take j_)] [1, 2, 0] rfl
  refine WL.callX rfl (sc_next sb (stepsN j_ s row) tb S row c (by first | assumption | omega) (M.eF fq trivial)) (CallsF.func Try.en24 rfl) ?_
  rintro _ w7 ⟨rfl, m⟩
  replace M := M.lF fq m
  clear m
  refine wM (Value.tuple #[(Value.agg #[(vS (((peekR (stepsN j_ s row) row).1).key)), (vI (((peekR (stepsN j_ s row) row).1).val))]), (vB ((peekR (stepsN j_ s row) row).2))]) (wP (Value.agg #[(vS (((peekR (stepsN j_ s row) row).1).key)), (vI (((peekR (stepsN j_ s row) row).1).val))]) (wP (vB ((peekR (stepsN j_ s row) row).2)) ?_))
  refine WL.alloc (c := #[(vS sZ), (vI 0)]) M rfl Try.el41.zero rfl (fun b8 w9 hb8 M => ?_)
  refine WL.store (v := (Value.agg #[(vS (((peekR (stepsN j_ s row) row).1).key)), (vI (((peekR (stepsN j_ s row) row).1).val))])) (cs := [(vS (((peekR (stepsN j_ s row) row).1).key)), (vI (((peekR (stepsN j_ s row) row).1).val))]) (c' := #[(vS (((peekR (stepsN j_ s row) row).1).key)), (vI (((peekR (stepsN j_ s row) row).1).val))]) M 0 rfl rfl Try.el41.sized rfl rfl rfl rfl (nL rfl) (cC rfl (cC rfl cel_nil)) rfl rfl (fun w10 M => ?_)
  refine wA (vB ((peekR (stepsN j_ s row) row).2)) (WL.nil (W.seq' (wR (wM (vB ((peekR (stepsN j_ s row) row).2)) (wP (vB (!((peekR (stepsN j_ s row) row).2))) (WL.nil ?_))))))
  refine W.cond (t := !((peekR (stepsN j_ s row) row).2)) rfl (fun h11 => ?_) (fun h11 => ?_)
  ·
   have hno_ : (peekR (stepsN j_ s row) row).2 = false := by simpa using h11
   have hnp_ := peek_none hu_ hno_
   replace M := M.rechunk 1 (c' := bk sb #[(vS ((stepsN j_ s row).frm)), (vS ((stepsN j_ s row).to_)), (vB ((stepsN j_ s row).back)), (vS ((stepsN j_ s row).at_)), (vB ((stepsN j_ s row).told))] 88) rfl (by rw [next_no hno_])
   refine W.exit (thn_exit ?_)
   refine inBlk_miss (by decide) ?_
   refine thn_exit ?_
   refine inBlk_hit ?_
   refine W.seq' ?_
   replace M := M.loseI 0
   refine W.region rfl (wM (vP sb) (wM (vP tb) ?_))
   have fq := M.frm [tT S tb row c] [bk sb #[(vS ((stepsN j_ s row).frm)), (vS ((stepsN j_ s row).to_)), (vB ((stepsN j_ s row).back)), (vS ((stepsN j_ s row).at_)), (vB ((stepsN j_ s row).told))] 88, oR v_ ((restR s row).take j_)] [1, 0, 2] rfl
   refine WL.callX rfl (sc_peek sb (stepsN j_ s row) tb S row c (by first | assumption | omega) (M.eF fq ⟨(M.cF fq 0 rfl), trivial⟩)) (CallsF.func Try.en25 rfl) ?_
   rintro _ w12 ⟨rfl, m⟩
   replace M := M.lF fq m
   clear m
   refine wM (Value.tuple #[(Value.agg #[(vS (((peekR (stepsN j_ s row) row).1).key)), (vI (((peekR (stepsN j_ s row) row).1).val))]), (vB ((peekR (stepsN j_ s row) row).2))]) (wP (Value.agg #[(vS (((peekR (stepsN j_ s row) row).1).key)), (vI (((peekR (stepsN j_ s row) row).1).val))]) (wS (vB false) rfl (Step.cast (congrArg Value.bool (show ((peekR (stepsN j_ s row) row).2) = false by simpa using h11)) sP) ?_))
   refine WL.alloc (c := #[(vS sZ), (vI 0)]) M rfl Try.el41.zero rfl (fun b13 w14 hb13 M => ?_)
   refine WL.store (v := (Value.agg #[(vS (((peekR (stepsN j_ s row) row).1).key)), (vI (((peekR (stepsN j_ s row) row).1).val))])) (cs := [(vS (((peekR (stepsN j_ s row) row).1).key)), (vI (((peekR (stepsN j_ s row) row).1).val))]) (c' := #[(vS (((peekR (stepsN j_ s row) row).1).key)), (vI (((peekR (stepsN j_ s row) row).1).val))]) M 0 rfl rfl Try.el41.sized rfl rfl rfl rfl (nL rfl) (cC rfl (cC rfl cel_nil)) rfl rfl (fun w15 M => ?_)
   refine wA (vB false) (WL.nil (wR (wM v_ (wM (vB false) (wP (vB true) (wA v_ (wA (vB true) (WL.nil ?_))))))))
   refine W.ret ?_
   refine ⟨.inl rfl, (Value.tuple #[v_, (vB true)]), ?_, ?_⟩
   · exact ⟨rfl, (Res.r2 (show RV _ _ _ (.tmp 6) v_ from by exact rfl) (show RV _ _ _ (.tmp 7) (vB true) from by exact rfl))⟩
   have hN_ : pageN s row n = j_ := page_n (by assumption) (by assumption) (by omega)
   have e16 : (bk sb #[(vS ((pageS s row n).frm)), (vS ((pageS s row n).to_)), (vB ((pageS s row n).back)), (vS ((pageS s row n).at_)), (vB ((pageS s row n).told))] 88 : Chunk) = (bk sb #[(vS ((stepsN j_ s row).frm)), (vS ((stepsN j_ s row).to_)), (vB ((stepsN j_ s row).back)), (vS ((stepsN j_ s row).at_)), (vB ((stepsN j_ s row).told))] 88 : Chunk) := by
    simp only [pageS, hN_]
   replace M := M.rechunk 2 (c' := bk sb #[(vS ((pageS s row n).frm)), (vS ((pageS s row n).to_)), (vB ((pageS s row n).back)), (vS ((pageS s row n).at_)), (vB ((pageS s row n).told))] 88) rfl e16.symm
   have e17 : pageL s row n = (restR s row).take j_ := by
    unfold pageL; rw [hN_]
   replace M := M.rechunk 3 (c' := oR v_ (pageL s row n)) rfl (congrArg (fun z => own 41 2 v_ z.length (z.flatMap hitE)) e17.symm)
   refine ⟨v_, ?_, M.close [2, 1, 3] rfl (by decide) trivial⟩
   unfold pageD pageS; rw [hN_]; try rw [hno_]; try rfl
  ·
   refine W.skip (W.region rfl (wM v_ (wS (Value.agg #[(vS (((peekR (stepsN j_ s row) row).1).key)), (vI (((peekR (stepsN j_ s row) row).1).val))]) rfl (Step.loadN Try.ag41 rfl (M.blk 0 rfl) (nL rfl) rfl) ?_)))
   refine WL.new (obj := .cells #[(vS (((peekR (stepsN j_ s row) row).1).key)), (vI (((peekR (stepsN j_ s row) row).1).val))] 41) (fun b => .slice (some ⟨b, 0, none⟩) 1 1) M rfl (fun w => Step.make (by kernel_rfl)) (fun b18 w19 hb18 M => ?_)
   refine WL.does rfl (M.appendF ((restR s row).take j_) ([((peekR (stepsN j_ s row) row).1)] : List THit) (sv := (Value.slice (some ⟨b18, 0, none⟩) 1 1)) 4 Try.un34 Try.el41 rfl (by decide) rfl rfl rfl (SlAt.of_blk (M.blk 0 rfl) rfl (by decide)) hitE_cel (by have := hacl; simp only [maxLen, List.length_nil, List.length_cons, List.length_append]; omega) (by have := hacl; (try simp only [List.length_nil, List.length_cons, List.length_append]); omega)) ?_
   rintro v20 w21 M
   have sl22 : IsSl v20 := SlAt.isSl (oW (M.chunk 4 rfl).inv)
   refine wA v20 (WL.nil ?_)
   have hok_ : (peekR (stepsN j_ s row) row).2 = true := by simpa using h11
   have hrt_ := rest_lt hu_ hok_
   replace M := M.rechunk 4 (c' := oR v20 ((restR s row).take (j_ + 1))) rfl (by rw [take_hit hu_ hok_])
   replace M := M.rechunk 2 (c' := bk sb #[(vS ((stepsN (j_ + 1) s row).frm)), (vS ((stepsN (j_ + 1) s row).to_)), (vB ((stepsN (j_ + 1) s row).back)), (vS ((stepsN (j_ + 1) s row).at_)), (vB ((stepsN (j_ + 1) s row).told))] 88) rfl rfl
   replace M := M.sel (L' := [oR v20 ((restR s row).take (j_ + 1)), bk sb #[(vS ((stepsN (j_ + 1) s row).frm)), (vS ((stepsN (j_ + 1) s row).to_)), (vB ((stepsN (j_ + 1) s row).back)), (vS ((stepsN (j_ + 1) s row).at_)), (vB ((stepsN (j_ + 1) s row).told))] 88, tT S tb row c]) [4, 2, 3] rfl (by decide)
   exact ⟨_, (by omega), j_ + 1, v20, ⟨(by omega), (by omega), rfl⟩, ⟨rfl, rfl, rfl, rfl, rfl, rfl, rfl⟩, M⟩
 ·
  have h6p := dF h6
  refine W.exit (thn_exit (thn_exit ?_))
  refine inBlk_hit ?_
  refine wR (wM (vP sb) (wM (vP tb) ?_))
  have fq := M.frm [tT S tb row c] [oR v_ ((restR s row).take j_), bk sb #[(vS ((stepsN j_ s row).frm)), (vS ((stepsN j_ s row).to_)), (vB ((stepsN j_ s row).back)), (vS ((stepsN j_ s row).at_)), (vB ((stepsN j_ s row).told))] 88] [2, 0, 1] rfl
  refine WL.callX rfl (sc_peek sb (stepsN j_ s row) tb S row c (by first | assumption | omega) (M.eF fq ⟨(M.cF fq 1 rfl), trivial⟩)) (CallsF.func Try.en25 rfl) ?_
  rintro _ w23 ⟨rfl, m⟩
  replace M := M.lF fq m
  clear m
  refine wM (Value.tuple #[(Value.agg #[(vS (((peekR (stepsN j_ s row) row).1).key)), (vI (((peekR (stepsN j_ s row) row).1).val))]), (vB ((peekR (stepsN j_ s row) row).2))]) (wP (Value.agg #[(vS (((peekR (stepsN j_ s row) row).1).key)), (vI (((peekR (stepsN j_ s row) row).1).val))]) (wP (vB ((peekR (stepsN j_ s row) row).2)) ?_))
  refine WL.alloc (c := #[(vS sZ), (vI 0)]) M rfl Try.el41.zero rfl (fun b24 w25 hb24 M => ?_)
  refine WL.store (v := (Value.agg #[(vS (((peekR (stepsN j_ s row) row).1).key)), (vI (((peekR (stepsN j_ s row) row).1).val))])) (cs := [(vS (((peekR (stepsN j_ s row) row).1).key)), (vI (((peekR (stepsN j_ s row) row).1).val))]) (c' := #[(vS (((peekR (stepsN j_ s row) row).1).key)), (vI (((peekR (stepsN j_ s row) row).1).val))]) M 0 rfl rfl Try.el41.sized rfl rfl rfl rfl (nL rfl) (cC rfl (cC rfl cel_nil)) rfl rfl (fun w26 M => ?_)
  refine wA (vB ((peekR (stepsN j_ s row) row).2)) (WL.nil (wR (wM v_ (wM (vB ((peekR (stepsN j_ s row) row).2)) (wP (vB (!((peekR (stepsN j_ s row) row).2))) (wA v_ (wA (vB (!((peekR (stepsN j_ s row) row).2))) (WL.nil ?_))))))))
  refine W.ret ?_
  refine ⟨.inl rfl, (Value.tuple #[v_, (vB (!((peekR (stepsN j_ s row) row).2)))]), ?_, ?_⟩
  · exact ⟨rfl, (Res.r2 (show RV _ _ _ (.tmp 6) v_ from by exact rfl) (show RV _ _ _ (.tmp 7) (vB (!((peekR (stepsN j_ s row) row).2))) from by exact rfl))⟩
  have hN_ : pageN s row n = j_ := page_n (by assumption) (by assumption) (by omega)
  have e27 : (bk sb #[(vS ((pageS s row n).frm)), (vS ((pageS s row n).to_)), (vB ((pageS s row n).back)), (vS ((pageS s row n).at_)), (vB ((pageS s row n).told))] 88 : Chunk) = (bk sb #[(vS ((stepsN j_ s row).frm)), (vS ((stepsN j_ s row).to_)), (vB ((stepsN j_ s row).back)), (vS ((stepsN j_ s row).at_)), (vB ((stepsN j_ s row).told))] 88 : Chunk) := by
   simp only [pageS, hN_]
  replace M := M.rechunk 3 (c' := bk sb #[(vS ((pageS s row n).frm)), (vS ((pageS s row n).to_)), (vB ((pageS s row n).back)), (vS ((pageS s row n).at_)), (vB ((pageS s row n).told))] 88) rfl e27.symm
  have e28 : pageL s row n = (restR s row).take j_ := by
   unfold pageL; rw [hN_]
  replace M := M.rechunk 2 (c' := oR v_ (pageL s row n)) rfl (congrArg (fun z => own 41 2 v_ z.length (z.flatMap hitE)) e28.symm)
  refine ⟨v_, ?_, M.close [3, 1, 2] rfl (by decide) trivial⟩
  unfold pageD pageS; rw [hN_]
theorem sc_page_n {G : Nat → Prop} {w : World} (t : Value) (n : Int)   (M : Mem G (fun _ => False) w [] [] w) : Rets Try.prog 15 #[vN, t, (vI n)] w fun r w' => r = (Value.tuple #[vZ, (vB true)]) ∧ Mem G (fun _ => False) w [] [] w' := by
 refine Rets.enter 37 _ Try.func15 rfl Try.ntmps15 Try.results15 (by simp) ?_
 refine wR (wA vZ (wA (vB false) (WL.nil ?_)))
 refine W.scope ?_
 refine W.seq' ?_
 refine W.label ?_
 refine W.seq' (W.block ?_)
 refine W.loop (fun kk ρ w' => (kk = 0) ∧ ρ.has [(0, vN), (1, t), (2, (vI n)), (6, vZ), (7, (vB false))] ∧ Mem G (fun _ => False) w [] []  w') _ ⟨rfl, ⟨rfl, rfl, rfl, rfl, rfl, rfl, rfl⟩, M⟩ ?_
 rintro _ ρ2 w1 ⟨rfl, hρ, M⟩
 obtain ⟨ρ2, rfl⟩ := hρ.know
 clear hρ
 refine W.seq' (wR (wM vZ (wS (vI 0) rfl (Step.lenS Try.un34 rfl rfl) (wM (vI n) (wP (vB (decide ((0 : Int) < (n : Int)))) (WL.nil ?_))))))
 refine W.cond (t := decide ((0 : Int) < (n : Int))) rfl (fun h3 => ?_) (fun h3 => ?_)
 ·
  have h3p := dT h3
  refine W.skip (W.block (wR (wM vN (wM t ?_))))
  refine WL.callX rfl (sc_next_n t (M.enterW0 trivial)) (CallsF.func Try.en24 rfl) ?_
  rintro _ w4 ⟨rfl, m⟩
  replace M := M.leaveW0 m
  clear m
  refine wM (Value.tuple #[(Value.agg #[(vS sZ), (vI 0)]), (vB false)]) (wP (Value.agg #[(vS sZ), (vI 0)]) (wP (vB false) ?_))
  refine WL.alloc (c := #[(vS sZ), (vI 0)]) M rfl Try.el41.zero rfl (fun b5 w6 hb5 M => ?_)
  refine WL.store (v := (Value.agg #[(vS sZ), (vI 0)])) (cs := [(vS sZ), (vI 0)]) (c' := #[(vS sZ), (vI 0)]) M 0 rfl rfl Try.el41.sized rfl rfl rfl rfl (nL rfl) (cC rfl (cC rfl cel_nil)) rfl rfl (fun w7 M => ?_)
  refine wA (vB false) (WL.nil (W.seq' (wR (wM (vB false) (wP (vB true) (WL.nil ?_))))))
  refine W.cond (t := true) rfl (fun _ => ?_) (fun h => by cases h)
  refine W.exit (thn_exit ?_)
  refine inBlk_miss (by decide) ?_
  refine thn_exit ?_
  refine inBlk_hit ?_
  refine W.seq' ?_
  replace M := M.loseI 0
  refine W.region rfl (wM vN (wM t ?_))
  refine WL.callX rfl (sc_peek_n t (M.enterW0 trivial)) (CallsF.func Try.en25 rfl) ?_
  rintro _ w8 ⟨rfl, m⟩
  replace M := M.leaveW0 m
  clear m
  refine wM (Value.tuple #[(Value.agg #[(vS sZ), (vI 0)]), (vB false)]) (wP (Value.agg #[(vS sZ), (vI 0)]) (wP (vB false) ?_))
  refine WL.alloc (c := #[(vS sZ), (vI 0)]) M rfl Try.el41.zero rfl (fun b9 w10 hb9 M => ?_)
  refine WL.store (v := (Value.agg #[(vS sZ), (vI 0)])) (cs := [(vS sZ), (vI 0)]) (c' := #[(vS sZ), (vI 0)]) M 0 rfl rfl Try.el41.sized rfl rfl rfl rfl (nL rfl) (cC rfl (cC rfl cel_nil)) rfl rfl (fun w11 M => ?_)
  refine wA (vB false) (WL.nil (wR (wM vZ (wM (vB false) (wP (vB true) (wA vZ (wA (vB true) (WL.nil ?_))))))))
  refine W.ret ?_
  refine ⟨.inl rfl, (Value.tuple #[vZ, (vB true)]), ?_, ?_⟩
  · exact ⟨rfl, (Res.r2 (show RV _ _ _ (.tmp 6) vZ from by exact rfl) (show RV _ _ _ (.tmp 7) (vB true) from by exact rfl))⟩
  refine ⟨?_, M.close [] rfl (by decide) trivial⟩
  rfl
 ·
  have h3p := dF h3
  refine W.exit (thn_exit (thn_exit ?_))
  refine inBlk_hit ?_
  refine wR (wM vN (wM t ?_))
  refine WL.callX rfl (sc_peek_n t (M.enterW0 trivial)) (CallsF.func Try.en25 rfl) ?_
  rintro _ w12 ⟨rfl, m⟩
  replace M := M.leaveW0 m
  clear m
  refine wM (Value.tuple #[(Value.agg #[(vS sZ), (vI 0)]), (vB false)]) (wP (Value.agg #[(vS sZ), (vI 0)]) (wP (vB false) ?_))
  refine WL.alloc (c := #[(vS sZ), (vI 0)]) M rfl Try.el41.zero rfl (fun b13 w14 hb13 M => ?_)
  refine WL.store (v := (Value.agg #[(vS sZ), (vI 0)])) (cs := [(vS sZ), (vI 0)]) (c' := #[(vS sZ), (vI 0)]) M 0 rfl rfl Try.el41.sized rfl rfl rfl rfl (nL rfl) (cC rfl (cC rfl cel_nil)) rfl rfl (fun w15 M => ?_)
  refine wA (vB false) (WL.nil (wR (wM vZ (wM (vB false) (wP (vB true) (wA vZ (wA (vB true) (WL.nil ?_))))))))
  refine W.ret ?_
  refine ⟨.inl rfl, (Value.tuple #[vZ, (vB true)]), ?_, ?_⟩
  · exact ⟨rfl, (Res.r2 (show RV _ _ _ (.tmp 6) vZ from by exact rfl) (show RV _ _ _ (.tmp 7) (vB true) from by exact rfl))⟩
  refine ⟨?_, M.close [] rfl (by decide) trivial⟩
  rfl
theorem sc_page_0 {G X : Nat → Prop} {w : World} (sb : Nat) (s : Scn) (n : Int)   (M : Mem G X w [bk sb #[(vS s.frm), (vS s.to_), (vB s.back), (vS s.at_), (vB s.told)] 88] [] w) : Rets Try.prog 15 #[(vP sb), vN, (vI n)] w fun r w' => r = (Value.tuple #[vZ, (vB true)]) ∧ Mem G X w [bk sb #[(vS s.frm), (vS s.to_), (vB s.back), (vS s.at_), (vB s.told)] 88] [] w' := by
 refine Rets.enter 37 _ Try.func15 rfl Try.ntmps15 Try.results15 (by simp) ?_
 refine wR (wA vZ (wA (vB false) (WL.nil ?_)))
 refine W.scope ?_
 refine W.seq' ?_
 refine W.label ?_
 refine W.seq' (W.block ?_)
 refine W.loop (fun kk ρ w' => (kk = 0) ∧ ρ.has [(0, (vP sb)), (1, vN), (2, (vI n)), (6, vZ), (7, (vB false))] ∧ Mem G X w [bk sb #[(vS s.frm), (vS s.to_), (vB s.back), (vS s.at_), (vB s.told)] 88] []  w') _ ⟨rfl, ⟨rfl, rfl, rfl, rfl, rfl, rfl, rfl⟩, M⟩ ?_
 rintro _ ρ2 w1 ⟨rfl, hρ, M⟩
 obtain ⟨ρ2, rfl⟩ := hρ.know
 clear hρ
 refine W.seq' (wR (wM vZ (wS (vI 0) rfl (Step.lenS Try.un34 rfl rfl) (wM (vI n) (wP (vB (decide ((0 : Int) < (n : Int)))) (WL.nil ?_))))))
 refine W.cond (t := decide ((0 : Int) < (n : Int))) rfl (fun h3 => ?_) (fun h3 => ?_)
 ·
  have h3p := dT h3
  refine W.skip (W.block (wR (wM (vP sb) (wM vN ?_))))
  have fq := M.frm [bk sb #[(vS s.frm), (vS s.to_), (vB s.back), (vS s.at_), (vB s.told)] 88] [] [0] rfl
  refine WL.callX rfl (sc_next_0 sb s (M.eF fq trivial)) (CallsF.func Try.en24 rfl) ?_
  rintro _ w4 ⟨rfl, m⟩
  replace M := M.lF fq m
  clear m
  refine wM (Value.tuple #[(Value.agg #[(vS sZ), (vI 0)]), (vB false)]) (wP (Value.agg #[(vS sZ), (vI 0)]) (wP (vB false) ?_))
  refine WL.alloc (c := #[(vS sZ), (vI 0)]) M rfl Try.el41.zero rfl (fun b5 w6 hb5 M => ?_)
  refine WL.store (v := (Value.agg #[(vS sZ), (vI 0)])) (cs := [(vS sZ), (vI 0)]) (c' := #[(vS sZ), (vI 0)]) M 0 rfl rfl Try.el41.sized rfl rfl rfl rfl (nL rfl) (cC rfl (cC rfl cel_nil)) rfl rfl (fun w7 M => ?_)
  refine wA (vB false) (WL.nil (W.seq' (wR (wM (vB false) (wP (vB true) (WL.nil ?_))))))
  refine W.cond (t := true) rfl (fun _ => ?_) (fun h => by cases h)
  refine W.exit (thn_exit ?_)
  refine inBlk_miss (by decide) ?_
  refine thn_exit ?_
  refine inBlk_hit ?_
  refine W.seq' ?_
  replace M := M.loseI 0
  refine W.region rfl (wM (vP sb) (wM vN ?_))
  refine WL.callX rfl (sc_peek_0 sb (M.enterW0 trivial)) (CallsF.func Try.en25 rfl) ?_
  rintro _ w8 ⟨rfl, m⟩
  replace M := M.leaveW0 m
  clear m
  refine wM (Value.tuple #[(Value.agg #[(vS sZ), (vI 0)]), (vB false)]) (wP (Value.agg #[(vS sZ), (vI 0)]) (wP (vB false) ?_))
  refine WL.alloc (c := #[(vS sZ), (vI 0)]) M rfl Try.el41.zero rfl (fun b9 w10 hb9 M => ?_)
  refine WL.store (v := (Value.agg #[(vS sZ), (vI 0)])) (cs := [(vS sZ), (vI 0)]) (c' := #[(vS sZ), (vI 0)]) M 0 rfl rfl Try.el41.sized rfl rfl rfl rfl (nL rfl) (cC rfl (cC rfl cel_nil)) rfl rfl (fun w11 M => ?_)
  refine wA (vB false) (WL.nil (wR (wM vZ (wM (vB false) (wP (vB true) (wA vZ (wA (vB true) (WL.nil ?_))))))))
  refine W.ret ?_
  refine ⟨.inl rfl, (Value.tuple #[vZ, (vB true)]), ?_, ?_⟩
  · exact ⟨rfl, (Res.r2 (show RV _ _ _ (.tmp 6) vZ from by exact rfl) (show RV _ _ _ (.tmp 7) (vB true) from by exact rfl))⟩
  refine ⟨?_, M.close [1] rfl (by decide) trivial⟩
  rfl
 ·
  have h3p := dF h3
  refine W.exit (thn_exit (thn_exit ?_))
  refine inBlk_hit ?_
  refine wR (wM (vP sb) (wM vN ?_))
  refine WL.callX rfl (sc_peek_0 sb (M.enterW0 trivial)) (CallsF.func Try.en25 rfl) ?_
  rintro _ w12 ⟨rfl, m⟩
  replace M := M.leaveW0 m
  clear m
  refine wM (Value.tuple #[(Value.agg #[(vS sZ), (vI 0)]), (vB false)]) (wP (Value.agg #[(vS sZ), (vI 0)]) (wP (vB false) ?_))
  refine WL.alloc (c := #[(vS sZ), (vI 0)]) M rfl Try.el41.zero rfl (fun b13 w14 hb13 M => ?_)
  refine WL.store (v := (Value.agg #[(vS sZ), (vI 0)])) (cs := [(vS sZ), (vI 0)]) (c' := #[(vS sZ), (vI 0)]) M 0 rfl rfl Try.el41.sized rfl rfl rfl rfl (nL rfl) (cC rfl (cC rfl cel_nil)) rfl rfl (fun w15 M => ?_)
  refine wA (vB false) (WL.nil (wR (wM vZ (wM (vB false) (wP (vB true) (wA vZ (wA (vB true) (WL.nil ?_))))))))
  refine W.ret ?_
  refine ⟨.inl rfl, (Value.tuple #[vZ, (vB true)]), ?_, ?_⟩
  · exact ⟨rfl, (Res.r2 (show RV _ _ _ (.tmp 6) vZ from by exact rfl) (show RV _ _ _ (.tmp 7) (vB true) from by exact rfl))⟩
  refine ⟨?_, M.close [1] rfl (by decide) trivial⟩
  rfl
end Go.Proofs
set_option maxRecDepth 100000
namespace Go.Proofs
open Go Tp
theorem Try.en14 : Enters Try.prog 14 := fun _ _ => by kernel_rfl
theorem sc_count {G X : Nat → Prop} {w : World} (tb : Nat) (S : Nat → Prop) (row : List THit) (c : Nat) (f : ByteArray) (t : ByteArray)  (hc : c ≤ 900) (M : Mem G X w [tT S tb row c] [] w) : Rets Try.prog 20 #[(vP tb), (vS f), (vS t)] w fun r w' => r = (vI (↑(countR row f t))) ∧ Mem G X w [tT S tb row c] [] w' := by
 refine Rets.enter 24 _ Try.func20 rfl Try.ntmps20 Try.results20 (by simp) ?_
 refine wR (wA (vI 0) (WL.nil (wR (wM (vS f) (wM (vS t) ?_)))))
 refine WL.callX rfl (sc_new f t false (M.enterW0 trivial)) (CallsF.func Try.en14 rfl) ?_
 rintro _ w2 ⟨sb1, rfl, m⟩
 replace M := M.leaveW0 m
 clear m
 refine wA (vP sb1) (WL.nil (W.block ?_))
 obtain ⟨hu_, hrc_⟩ := tabC_up (M.chunk 1 rfl).inv
 obtain ⟨s, hs_⟩ : ∃ s, s = (⟨f, t, false, sZ, false⟩ : Scn) := ⟨_, rfl⟩
 have hrl_ := rest_le (s := s) (row := row)
 replace M := M.rechunk 0 (c' := bk sb1 #[(vS ((stepsN 0 s row).frm)), (vS ((stepsN 0 s row).to_)), (vB ((stepsN 0 s row).back)), (vS ((stepsN 0 s row).at_)), (vB ((stepsN 0 s row).told))] 88) rfl (by subst hs_; rfl)
 replace M := M.sel (L' := [bk sb1 #[(vS ((stepsN 0 s row).frm)), (vS ((stepsN 0 s row).to_)), (vB ((stepsN 0 s row).back)), (vS ((stepsN 0 s row).at_)), (vB ((stepsN 0 s row).told))] 88, tT S tb row c]) [0, 1] rfl (by decide)
 refine W.loop (fun kk ρ w' => ∃ (j_ : Nat), ((j_ ≤ (restR s row).length) ∧ kk = (restR s row).length - j_) ∧ ρ.has [(0, (vP tb)), (6, (vI ↑j_)), (7, (vP sb1))] ∧ Mem G X w [bk sb1 #[(vS ((stepsN j_ s row).frm)), (vS ((stepsN j_ s row).to_)), (vB ((stepsN j_ s row).back)), (vS ((stepsN j_ s row).at_)), (vB ((stepsN j_ s row).told))] 88, tT S tb row c] []  w') _ ⟨0, ⟨(Nat.zero_le _), rfl⟩, ⟨rfl, rfl, rfl, rfl, rfl⟩, M⟩ ?_
 rintro _ ρ4 w3 ⟨j_, ⟨hi5, rfl⟩, hρ, M⟩
 obtain ⟨ρ4, rfl⟩ := hρ.know
 clear hρ
 refine W.block (W.seq' (wR (wM (vP sb1) (wM (vP tb) ?_))))
 have fq := M.frm [bk sb1 #[(vS ((stepsN j_ s row).frm)), (vS ((stepsN j_ s row).to_)), (vB ((stepsN j_ s row).back)), (vS ((stepsN j_ s row).at_)), (vB ((stepsN j_ s row).told))] 88, tT S tb row c] [] [0, 1] rfl
 refine WL.callX rfl (sc_next sb1 (stepsN j_ s row) tb S row c (by first | assumption | omega) (M.eF fq trivial)) (CallsF.func Try.en24 rfl) ?_
 rintro _ w6 ⟨rfl, m⟩
 replace M := M.lF fq m
 clear m
 refine wM (Value.tuple #[(Value.agg #[(vS (((peekR (stepsN j_ s row) row).1).key)), (vI (((peekR (stepsN j_ s row) row).1).val))]), (vB ((peekR (stepsN j_ s row) row).2))]) (wP (Value.agg #[(vS (((peekR (stepsN j_ s row) row).1).key)), (vI (((peekR (stepsN j_ s row) row).1).val))]) (wP (vB ((peekR (stepsN j_ s row) row).2)) ?_))
 refine WL.alloc (c := #[(vS sZ), (vI 0)]) M rfl Try.el41.zero rfl (fun b7 w8 hb7 M => ?_)
 refine WL.store (v := (Value.agg #[(vS (((peekR (stepsN j_ s row) row).1).key)), (vI (((peekR (stepsN j_ s row) row).1).val))])) (cs := [(vS (((peekR (stepsN j_ s row) row).1).key)), (vI (((peekR (stepsN j_ s row) row).1).val))]) (c' := #[(vS (((peekR (stepsN j_ s row) row).1).key)), (vI (((peekR (stepsN j_ s row) row).1).val))]) M 0 rfl rfl Try.el41.sized rfl rfl rfl rfl (nL rfl) (cC rfl (cC rfl cel_nil)) rfl rfl (fun w9 M => ?_)
 refine wA (vB ((peekR (stepsN j_ s row) row).2)) (WL.nil (wR (wM (vB ((peekR (stepsN j_ s row) row).2)) (wP (vB (!((peekR (stepsN j_ s row) row).2))) (WL.nil ?_)))))
 refine W.cond (t := !((peekR (stepsN j_ s row) row).2)) rfl (fun h10 => ?_) (fun h10 => ?_)
 ·
  refine wR (wM (vI ↑j_) (wA (vI ↑j_) (WL.nil ?_)))
  refine W.ret ?_
  refine ⟨.inl rfl, (vI ↑j_), ?_, ?_⟩
  · exact ⟨rfl, (Res.r1 (show RV _ _ _ (.tmp 6) (vI ↑j_) from by exact rfl))⟩
  refine ⟨?_, M.close [2] rfl (by decide) trivial⟩
  have hno_ : (peekR (stepsN j_ s row) row).2 = false := by simpa using h10
  have hnp_ := peek_none hu_ hno_
  refine congrArg (Value.int .i64) ?_
  unfold countR
  rw [← hs_]
  omega
 ·
  refine W.skip (W.region rfl (wM (vI ↑j_) (wS (vI (↑j_ + 1)) rfl (Step.add rfl rfl (wrap_i64 (by omega))) (wA (vI (↑j_ + 1)) (WL.nil ?_)))))
  have hok_ : (peekR (stepsN j_ s row) row).2 = true := by simpa using h10
  have hrt_ := rest_lt hu_ hok_
  replace M := M.rechunk 1 (c' := bk sb1 #[(vS ((stepsN (j_ + 1) s row).frm)), (vS ((stepsN (j_ + 1) s row).to_)), (vB ((stepsN (j_ + 1) s row).back)), (vS ((stepsN (j_ + 1) s row).at_)), (vB ((stepsN (j_ + 1) s row).told))] 88) rfl rfl
  replace M := M.sel (L' := [bk sb1 #[(vS ((stepsN (j_ + 1) s row).frm)), (vS ((stepsN (j_ + 1) s row).to_)), (vB ((stepsN (j_ + 1) s row).back)), (vS ((stepsN (j_ + 1) s row).at_)), (vB ((stepsN (j_ + 1) s row).told))] 88, tT S tb row c]) [1, 2] rfl (by decide)
  exact ⟨_, (by omega), j_ + 1, ⟨(by omega), rfl⟩, ⟨rfl, rfl, rfl, rfl, rfl⟩, M⟩
theorem sc_count_0 {G : Nat → Prop} {w : World} (f : ByteArray) (t : ByteArray)   (M : Mem G (fun _ => False) w [] [] w) : Rets Try.prog 20 #[vN, (vS f), (vS t)] w fun r w' => r = (vI 0) ∧ Mem G (fun _ => False) w [] [] w' := by
 refine Rets.enter 24 _ Try.func20 rfl Try.ntmps20 Try.results20 (by simp) ?_
 refine wR (wA (vI 0) (WL.nil (wR (wM (vS f) (wM (vS t) ?_)))))
 refine WL.callX rfl (sc_new f t false (M.enterW0 trivial)) (CallsF.func Try.en14 rfl) ?_
 rintro _ w2 ⟨sb1, rfl, m⟩
 replace M := M.leaveW0 m
 clear m
 refine wA (vP sb1) (WL.nil (W.block ?_))
 refine W.loop (fun kk ρ w' => (kk = 0) ∧ ρ.has [(0, vN), (6, (vI 0)), (7, (vP sb1))] ∧ Mem G (fun _ => False) w [bk sb1 #[(vS ((⟨f, t, false, sZ, false⟩ : Scn).frm)), (vS ((⟨f, t, false, sZ, false⟩ : Scn).to_)), (vB ((⟨f, t, false, sZ, false⟩ : Scn).back)), (vS ((⟨f, t, false, sZ, false⟩ : Scn).at_)), (vB ((⟨f, t, false, sZ, false⟩ : Scn).told))] 88] []  w') _ ⟨rfl, ⟨rfl, rfl, rfl, rfl, rfl⟩, M⟩ ?_
 rintro _ ρ4 w3 ⟨rfl, hρ, M⟩
 obtain ⟨ρ4, rfl⟩ := hρ.know
 clear hρ
 refine W.block (W.seq' (wR (wM (vP sb1) (wM vN ?_))))
 have fq := M.frm [bk sb1 #[(vS ((⟨f, t, false, sZ, false⟩ : Scn).frm)), (vS ((⟨f, t, false, sZ, false⟩ : Scn).to_)), (vB ((⟨f, t, false, sZ, false⟩ : Scn).back)), (vS ((⟨f, t, false, sZ, false⟩ : Scn).at_)), (vB ((⟨f, t, false, sZ, false⟩ : Scn).told))] 88] [] [0] rfl
 refine WL.callX rfl (sc_next_0 sb1 (⟨f, t, false, sZ, false⟩ : Scn) (M.eF fq trivial)) (CallsF.func Try.en24 rfl) ?_
 rintro _ w5 ⟨rfl, m⟩
 replace M := M.lF fq m
 clear m
 refine wM (Value.tuple #[(Value.agg #[(vS sZ), (vI 0)]), (vB false)]) (wP (Value.agg #[(vS sZ), (vI 0)]) (wP (vB false) ?_))
 refine WL.alloc (c := #[(vS sZ), (vI 0)]) M rfl Try.el41.zero rfl (fun b6 w7 hb6 M => ?_)
 refine WL.store (v := (Value.agg #[(vS sZ), (vI 0)])) (cs := [(vS sZ), (vI 0)]) (c' := #[(vS sZ), (vI 0)]) M 0 rfl rfl Try.el41.sized rfl rfl rfl rfl (nL rfl) (cC rfl (cC rfl cel_nil)) rfl rfl (fun w8 M => ?_)
 refine wA (vB false) (WL.nil (wR (wM (vB false) (wP (vB true) (WL.nil ?_)))))
 refine W.cond (t := true) rfl (fun _ => ?_) (fun h => by cases h)
 refine wR (wM (vI 0) (wA (vI 0) (WL.nil ?_)))
 refine W.ret ?_
 refine ⟨.inl rfl, (vI 0), ?_, ?_⟩
 · exact ⟨rfl, (Res.r1 (show RV _ _ _ (.tmp 6) (vI 0) from by exact rfl))⟩
 refine ⟨?_, M.close [] rfl (by decide) trivial⟩
 rfl
end Go.Proofs
set_option maxRecDepth 100000
namespace Go.Proofs
open Go Tp
theorem Try.ag46 : Aggr Try.prog 46 5 := ⟨fun _ => by kernel_rfl, fun _ => by kernel_rfl⟩
theorem Try.el46 : Elem Try.prog 46 (Value.agg #[(vS sZ), (vS sZ), (vB false), (vS sZ), (vB false)]) 5 64 := Elem.mk (by kernel_rfl)
theorem Try.en55 : Enters Try.prog 55 := fun _ _ => by kernel_rfl
theorem Try.en56 : Enters Try.prog 56 := fun _ _ => by kernel_rfl
theorem r_left {G : Nat → Prop} {w : World} (s : Scn) (k : ByteArray)   (M : Mem G (fun _ => False) w [] [] w) : Rets Try.prog 56 #[(Value.agg #[(vS s.frm), (vS s.to_), (vB s.back), (vS s.at_), (vB s.told)]), (vS k)] w fun r w' => r = (vB (leftB s k)) ∧ Mem G (fun _ => False) w [] [] w' := by
 refine Rets.enter 33 _ Try.func56 rfl Try.ntmps56 Try.results56 (by simp) ?_
 refine wR ?_
 refine WL.box (v := (Value.agg #[(vS s.frm), (vS s.to_), (vB s.back), (vS s.at_), (vB s.told)])) (c := #[(vS s.frm), (vS s.to_), (vB s.back), (vS s.at_), (vB s.told)]) M rfl rfl rfl (fun b1 w2 hb1 M => ?_)
 refine wA (vB false) (WL.nil (W.seq' (wR (wM (vS k) (wP (vP b1) (wS (vS s.frm) rfl (Step.load1 Try.sc9 rfl ((M.cell 0 rfl 0).trans rfl)) (wP (vB (sLt k s.frm)) (wM (vB (sLt k s.frm)) ?_))))))))
 rcases Bool.eq_false_or_eq_true (sLt k s.frm) with h3 | h3
 ·
  rw [h3]
  refine WL.pass rfl (WL.pass rfl (WL.pass rfl (WL.pass rfl (WL.pass rfl (WL.pass rfl (WL.pass rfl (WL.pass rfl (WL.pass rfl (wS (vB true) rfl (Step.pick (t := true) rfl rfl) (WL.nil ?_))))))))))
  refine W.cond (t := true) rfl (fun _ => ?_) (fun h => by cases h)
  refine wR (wA (vB false) (WL.nil ?_))
  refine W.ret ?_
  refine ⟨.inl rfl, (vB false), ?_, ?_⟩
  · exact ⟨rfl, (Res.r1 (show RV _ _ _ (.tmp 4) (vB false) from by exact rfl))⟩
  refine ⟨?_, M.close [] rfl (by decide) trivial⟩
  refine congrArg Value.bool ?_
  unfold leftB withinS
  try simp only [sGt, sLe] at *
  try simp only [sEq_dec] at *
  simp_all
 ·
  rw [h3]
  refine wP (Value.pointer (some ⟨b1, 1, none⟩)) (wS (vS s.to_) rfl (Step.load1 Try.sc9 rfl ((M.cell 0 rfl 1).trans rfl)) (wP (vB (!(s.to_.toList == sZ.toList))) (wM (vB (!(s.to_.toList == sZ.toList))) ?_)))
  rcases Bool.eq_false_or_eq_true (!(s.to_.toList == sZ.toList)) with h4 | h4
  ·
   rw [h4]
   refine wM (vS k) (wP (Value.pointer (some ⟨b1, 1, none⟩)) (wS (vS s.to_) rfl (Step.load1 Try.sc9 rfl ((M.cell 0 rfl 1).trans rfl)) (wP (vB (!(sLt k s.to_))) (wS (vB (!(sLt k s.to_))) rfl (Step.pick (t := true) rfl rfl) (wS (vB (!(sLt k s.to_))) rfl (Step.pick (t := false) rfl rfl) (WL.nil ?_))))))
   refine W.cond (t := !(sLt k s.to_)) rfl (fun h5 => ?_) (fun h5 => ?_)
   ·
    refine wR (wA (vB false) (WL.nil ?_))
    refine W.ret ?_
    refine ⟨.inl rfl, (vB false), ?_, ?_⟩
    · exact ⟨rfl, (Res.r1 (show RV _ _ _ (.tmp 4) (vB false) from by exact rfl))⟩
    refine ⟨?_, M.close [] rfl (by decide) trivial⟩
    refine congrArg Value.bool ?_
    unfold leftB withinS
    try simp only [sGt, sLe] at *
    try simp only [sEq_dec] at *
    simp_all
   ·
    refine W.skip (W.seq' (wR (wP (Value.pointer (some ⟨b1, 4, none⟩)) (wS (vB s.told) rfl (Step.load1 Try.sc4 rfl ((M.cell 0 rfl 4).trans rfl)) (wP (vB !s.told) (WL.nil ?_))))))
    refine W.cond (t := !s.told) rfl (fun h6 => ?_) (fun h6 => ?_)
    ·
     refine wR (wA (vB true) (WL.nil ?_))
     refine W.ret ?_
     refine ⟨.inl rfl, (vB true), ?_, ?_⟩
     · exact ⟨rfl, (Res.r1 (show RV _ _ _ (.tmp 4) (vB true) from by exact rfl))⟩
     refine ⟨?_, M.close [] rfl (by decide) trivial⟩
     refine congrArg Value.bool ?_
     unfold leftB withinS
     try simp only [sGt, sLe] at *
     try simp only [sEq_dec] at *
     simp_all
    ·
     refine W.skip (W.seq' (wR (wP (Value.pointer (some ⟨b1, 2, none⟩)) (wS (vB s.back) rfl (Step.load1 Try.sc4 rfl ((M.cell 0 rfl 2).trans rfl)) (WL.nil ?_)))))
     refine W.cond (t := s.back) rfl (fun h7 => ?_) (fun h7 => ?_)
     ·
      refine wR (wM (vS k) (wP (Value.pointer (some ⟨b1, 3, none⟩)) (wS (vS s.at_) rfl (Step.load1 Try.sc9 rfl ((M.cell 0 rfl 3).trans rfl)) (wP (vB (sLt k s.at_)) (wA (vB (sLt k s.at_)) (WL.nil ?_))))))
      refine W.ret ?_
      refine ⟨.inl rfl, (vB (sLt k s.at_)), ?_, ?_⟩
      · exact ⟨rfl, (Res.r1 (show RV _ _ _ (.tmp 4) (vB (sLt k s.at_)) from by exact rfl))⟩
      refine ⟨?_, M.close [] rfl (by decide) trivial⟩
      refine congrArg Value.bool ?_
      unfold leftB withinS
      try simp only [sGt, sLe] at *
      try simp only [sEq_dec] at *
      simp_all
     ·
      refine W.skip (wR (wM (vS k) (wP (Value.pointer (some ⟨b1, 3, none⟩)) (wS (vS s.at_) rfl (Step.load1 Try.sc9 rfl ((M.cell 0 rfl 3).trans rfl)) (wP (vB (!(sLt k s.at_ || k.toList == s.at_.toList))) (wA (vB (!(sLt k s.at_ || k.toList == s.at_.toList))) (WL.nil ?_)))))))
      refine W.ret ?_
      refine ⟨.inl rfl, (vB (!(sLt k s.at_ || k.toList == s.at_.toList))), ?_, ?_⟩
      · exact ⟨rfl, (Res.r1 (show RV _ _ _ (.tmp 4) (vB (!(sLt k s.at_ || k.toList == s.at_.toList))) from by exact rfl))⟩
      refine ⟨?_, M.close [] rfl (by decide) trivial⟩
      refine congrArg Value.bool ?_
      unfold leftB withinS
      try simp only [sGt, sLe] at *
      try simp only [sEq_dec] at *
      simp_all
  ·
   rw [h4]
   refine WL.pass rfl (WL.pass rfl (WL.pass rfl (WL.pass rfl (wS (vB false) rfl (Step.pick (t := false) rfl rfl) (wS (vB false) rfl (Step.pick (t := false) rfl rfl) (WL.nil ?_))))))
   refine W.cond (t := false) rfl (fun h => by cases h) (fun _ => ?_)
   refine W.skip (W.seq' (wR (wP (Value.pointer (some ⟨b1, 4, none⟩)) (wS (vB s.told) rfl (Step.load1 Try.sc4 rfl ((M.cell 0 rfl 4).trans rfl)) (wP (vB !s.told) (WL.nil ?_))))))
   refine W.cond (t := !s.told) rfl (fun h8 => ?_) (fun h8 => ?_)
   ·
    refine wR (wA (vB true) (WL.nil ?_))
    refine W.ret ?_
    refine ⟨.inl rfl, (vB true), ?_, ?_⟩
    · exact ⟨rfl, (Res.r1 (show RV _ _ _ (.tmp 4) (vB true) from by exact rfl))⟩
    refine ⟨?_, M.close [] rfl (by decide) trivial⟩
    refine congrArg Value.bool ?_
    unfold leftB withinS
    try simp only [sGt, sLe] at *
    try simp only [sEq_dec] at *
    simp_all
   ·
    refine W.skip (W.seq' (wR (wP (Value.pointer (some ⟨b1, 2, none⟩)) (wS (vB s.back) rfl (Step.load1 Try.sc4 rfl ((M.cell 0 rfl 2).trans rfl)) (WL.nil ?_)))))
    refine W.cond (t := s.back) rfl (fun h9 => ?_) (fun h9 => ?_)
    ·
     refine wR (wM (vS k) (wP (Value.pointer (some ⟨b1, 3, none⟩)) (wS (vS s.at_) rfl (Step.load1 Try.sc9 rfl ((M.cell 0 rfl 3).trans rfl)) (wP (vB (sLt k s.at_)) (wA (vB (sLt k s.at_)) (WL.nil ?_))))))
     refine W.ret ?_
     refine ⟨.inl rfl, (vB (sLt k s.at_)), ?_, ?_⟩
     · exact ⟨rfl, (Res.r1 (show RV _ _ _ (.tmp 4) (vB (sLt k s.at_)) from by exact rfl))⟩
     refine ⟨?_, M.close [] rfl (by decide) trivial⟩
     refine congrArg Value.bool ?_
     unfold leftB withinS
     try simp only [sGt, sLe] at *
     try simp only [sEq_dec] at *
     simp_all
    ·
     refine W.skip (wR (wM (vS k) (wP (Value.pointer (some ⟨b1, 3, none⟩)) (wS (vS s.at_) rfl (Step.load1 Try.sc9 rfl ((M.cell 0 rfl 3).trans rfl)) (wP (vB (!(sLt k s.at_ || k.toList == s.at_.toList))) (wA (vB (!(sLt k s.at_ || k.toList == s.at_.toList))) (WL.nil ?_)))))))
     refine W.ret ?_
     refine ⟨.inl rfl, (vB (!(sLt k s.at_ || k.toList == s.at_.toList))), ?_, ?_⟩
     · exact ⟨rfl, (Res.r1 (show RV _ _ _ (.tmp 4) (vB (!(sLt k s.at_ || k.toList == s.at_.toList))) from by exact rfl))⟩
     refine ⟨?_, M.close [] rfl (by decide) trivial⟩
     refine congrArg Value.bool ?_
     unfold leftB withinS
     try simp only [sGt, sLe] at *
     try simp only [sEq_dec] at *
     simp_all
theorem r_peek {G : Nat → Prop} {w : World} (s : Scn) (v : Value) (l : List THit)   (M : Mem G (fun _ => False) w [] [fR v l] w) : Rets Try.prog 55 #[(Value.agg #[(vS s.frm), (vS s.to_), (vB s.back), (vS s.at_), (vB s.told)]), v] w fun r w' => r = (Value.tuple #[(Value.agg #[(vS (((peekR s l).1).key)), (vI (((peekR s l).1).val))]), (vB ((peekR s l).2))]) ∧ Mem G (fun _ => False) w [] [] w' := by
 refine Rets.enter 36 _ Try.func55 rfl Try.ntmps55 Try.results55 (by simp) ?_
 have hle1 := SlAt.le' (M.rep 0 rfl)
 have sl2 : IsSl v := SlAt.isSl (Mem.rep M 0 rfl)
 refine wR ?_
 refine WL.box (v := (Value.agg #[(vS s.frm), (vS s.to_), (vB s.back), (vS s.at_), (vB s.told)])) (c := #[(vS s.frm), (vS s.to_), (vB s.back), (vS s.at_), (vB s.told)]) M rfl rfl rfl (fun b3 w4 hb3 M => ?_)
 refine WL.alloc (c := #[(vS sZ), (vI 0)]) M rfl Try.el108.zero rfl (fun b5 w6 hb5 M => ?_)
 refine wA (vB false) (WL.nil (wR ?_))
 refine WL.alloc (c := #[(vS sZ), (vI 0)]) M rfl Try.el108.zero rfl (fun b7 w8 hb7 M => ?_)
 refine WL.nil (wR (wA (vB false) (WL.nil (W.seq' (wR (wA (vI 0) (WL.nil (W.block ?_))))))))
 replace M := M.sel (L' := [bk b7 #[(vS sZ), (vI 0)] 108, bk b5 #[(vS sZ), (vI 0)] 108, bk b3 #[(vS s.frm), (vS s.to_), (vB s.back), (vS s.at_), (vB s.told)] 46]) [0, 1, 2] rfl (by decide)
 refine W.loop (fun kk ρ w' => ∃ (i_ : Nat) (o_ : THit) (fd_ : Bool), ((i_ ≤ l.length) ∧ (peekR s (l.take i_) = (o_, fd_)) ∧ kk = l.length - i_) ∧ ρ.has [(1, v), (2, (vP b3)), (4, (vP b5)), (5, (vB false)), (6, (vP b7)), (7, (vB fd_)), (8, (vI ↑i_))] ∧ Mem G (fun _ => False) w [bk b7 #[(vS o_.key), (vI o_.val)] 108, bk b5 #[(vS sZ), (vI 0)] 108, bk b3 #[(vS s.frm), (vS s.to_), (vB s.back), (vS s.at_), (vB s.told)] 46] [fR v l]  w') _ ⟨0, ⟨sZ, 0⟩, false, ⟨(Nat.zero_le _), rpeek_zero, rfl⟩, ⟨rfl, rfl, rfl, rfl, rfl, rfl, rfl, rfl, rfl⟩, M⟩ ?_
 rintro _ ρ10 w9 ⟨i_, o_, fd_, ⟨hi11, hi12, rfl⟩, hρ, M⟩
 obtain ⟨ρ10, rfl⟩ := hρ.know
 clear hρ
 have hpk_ : peekR s (l.take i_) = (o_, fd_) := hi12
 refine W.seq' (wR (wM (vI ↑i_) (wM v (wS (vI ↑l.length) rfl (Step.lenSl Try.un27 rfl (M.rep 0 rfl)) (wP (vB (decide ((↑i_ : Int) < (↑l.length : Int)))) (WL.nil ?_))))))
 refine W.cond (t := decide ((↑i_ : Int) < (↑l.length : Int))) rfl (fun h13 => ?_) (fun h13 => ?_)
 ·
  have h13p := dT h13
  refine W.skip (W.seq' (W.block (W.seq' ?_)))
  obtain ⟨cap15, hb14⟩ := SlAt.base (M.rep 0 rfl) (by omega)
  obtain ⟨x16, hx16⟩ := elem_of_lt (xs := l) (i := i_) (by omega)
  rcases Bool.eq_false_or_eq_true (leftB s x16.key) with h17 | h17
  ·
   rcases Bool.eq_false_or_eq_true (!fd_) with h18 | h18
   ·
    refine W.drawn M [0, 1, 2, 3, 4, 5, 6, 7, 8, 9, 10, 11, 12, 13, 14] [6] [] _ _ (sY (sY (sY sE))) (fun _ h => h) Try.mixed (by kernel_rfl) ?_
    refine tR (Value.agg #[(vS s.frm), (vS s.to_), (vB s.back), (vS s.at_), (vB s.told)]) rfl (fun A w M => (Step.loadN Try.ag46 rfl (M.blk 3 rfl) (nL rfl) rfl)) (tM v rfl (tM (vI ↑i_) rfl (tP (vQ v i_ 2) rfl (fun w => (sX i_ Try.un27 Try.el108 rfl rfl hb14)) (tQ (vQ v i_ 2) rfl (tR (vS x16.key) rfl (fun A w M => (Step.loadE (k := 0) Try.sc9 (flat_ec (M.rep 0 rfl) hx16 hitE_len) (by decide) rfl rfl)) ?_)))))
    let Q : List Chunk := [bk b7 #[(vS o_.key), (vI o_.val)] 108, bk b5 #[(vS sZ), (vI 0)] 108, bk b3 #[(vS s.frm), (vS s.to_), (vB s.back), (vS s.at_), (vB s.told)] 46]
    refine TW.callX (ι := Unit) (fun jx v_ => v_ = (vB (leftB s x16.key))) (fun jx => Q) (fun jx => [fR v l]) rfl (by decide) rfl (fun jx => (sY (sY (sY sE)))) (fun jx r h => h) (fun A w M => Rets.mono (r_left s x16.key (M.enterW0 trivial)) (fun v_ w_ ⟨e_, m⟩ => ⟨(), e_, (M.leaveW0 m).sel [0, 1, 2, 3] rfl (by decide), fun b hb => M.k0F m b hb⟩)) (fun w => CallsF.func Try.en56 rfl) (fun jx v hp hin => ?_)
    replace hp := hp.symm; subst hp
    clear hin
    rw [h17]
    refine tM (vB true) rfl (tP (vB false) rfl (fun w => (Step.cast (congrArg Value.bool (show (fd_) = false by simpa using h18)) (Step.move rfl))) (tQ (vB true) rfl (tM (vB true) rfl ?_)))
    refine TW.skip rfl rfl ?_
    refine TW.skip rfl rfl ?_
    refine tP (vB true) rfl (fun w => (Step.pick (t := true) rfl rfl)) (tP (vB true) rfl (fun w => (Step.pick (t := true) rfl rfl)) ?_)
    refine TW.done (fun w19 M => ?_)
    refine W.cond (t := true) rfl (fun _ => ?_) (fun h => by cases h)
    refine wR (wM v (wM (vI ↑i_) (wS (vQ v i_ 2) rfl (sX i_ Try.un27 Try.el108 rfl rfl hb14) (wS (Value.agg #[(vS x16.key), (vI x16.val)]) rfl (Step.loadEN (k := 0) (cs' := [(vS x16.key), (vI x16.val)]) Try.ag108 (flat_ec (M.rep 0 rfl) hx16 hitE_len) (by decide) rfl rfl rfl) ?_))))
    refine WL.store (v := (Value.agg #[(vS x16.key), (vI x16.val)])) (cs := [(vS x16.key), (vI x16.val)]) (c' := #[(vS x16.key), (vI x16.val)]) M 0 rfl rfl Try.el108.sized rfl rfl rfl rfl (nL rfl) (cC rfl (cC rfl cel_nil)) rfl rfl (fun w20 M => ?_)
    refine WL.nil (W.region rfl (wA (vB true) (WL.nil (W.region rfl (wM (vI ↑i_) (wS (vI (↑i_ + 1)) rfl (Step.add rfl rfl (wrap_i64 (by omega))) (wA (vI (↑i_ + 1)) (WL.nil ?_))))))))
    exact ⟨_, (by omega), i_ + 1, x16, true, ⟨(by omega), (rpeek_hit hx16 (by simpa using h17) (.inl (by rw [hpk_]; simpa using h18))), rfl⟩, ⟨rfl, rfl, rfl, rfl, rfl, rfl, rfl, rfl, rfl⟩, M⟩
   ·
    refine W.drawn M [0, 1, 2, 3, 4, 5, 6, 7, 8, 9, 10, 11, 12, 13, 14] [6] [] _ _ (sY (sY (sY sE))) (fun _ h => h) Try.mixed (by kernel_rfl) ?_
    refine tR (Value.agg #[(vS s.frm), (vS s.to_), (vB s.back), (vS s.at_), (vB s.told)]) rfl (fun A w M => (Step.loadN Try.ag46 rfl (M.blk 3 rfl) (nL rfl) rfl)) (tM v rfl (tM (vI ↑i_) rfl (tP (vQ v i_ 2) rfl (fun w => (sX i_ Try.un27 Try.el108 rfl rfl hb14)) (tQ (vQ v i_ 2) rfl (tR (vS x16.key) rfl (fun A w M => (Step.loadE (k := 0) Try.sc9 (flat_ec (M.rep 0 rfl) hx16 hitE_len) (by decide) rfl rfl)) ?_)))))
    let Q : List Chunk := [bk b7 #[(vS o_.key), (vI o_.val)] 108, bk b5 #[(vS sZ), (vI 0)] 108, bk b3 #[(vS s.frm), (vS s.to_), (vB s.back), (vS s.at_), (vB s.told)] 46]
    refine TW.callX (ι := Unit) (fun jx v_ => v_ = (vB (leftB s x16.key))) (fun jx => Q) (fun jx => [fR v l]) rfl (by decide) rfl (fun jx => (sY (sY (sY sE)))) (fun jx r h => h) (fun A w M => Rets.mono (r_left s x16.key (M.enterW0 trivial)) (fun v_ w_ ⟨e_, m⟩ => ⟨(), e_, (M.leaveW0 m).sel [0, 1, 2, 3] rfl (by decide), fun b hb => M.k0F m b hb⟩)) (fun w => CallsF.func Try.en56 rfl) (fun jx v hp hin => ?_)
    replace hp := hp.symm; subst hp
    clear hin
    rw [h17]
    refine tM (vB true) rfl (tP (vB true) rfl (fun w => (Step.cast (congrArg Value.bool (show (fd_) = true by simpa using h18)) (Step.move rfl))) (tQ (vB false) rfl (tM (vB false) rfl (tQ (Value.pointer (some ⟨b3, 2, none⟩)) rfl (tR (vB s.back) rfl (fun A w M => (Step.load1 Try.sc4 rfl ((M.cell 3 rfl 2).trans rfl))) (tP (vB s.back) rfl (fun w => (Step.pick (t := false) rfl rfl)) (tP (vB s.back) rfl (fun w => (Step.pick (t := true) rfl rfl)) ?_)))))))
    refine TW.done (fun w21 M => ?_)
    refine W.cond (t := s.back) rfl (fun h22 => ?_) (fun h22 => ?_)
    ·
     refine wR (wM v (wM (vI ↑i_) (wS (vQ v i_ 2) rfl (sX i_ Try.un27 Try.el108 rfl rfl hb14) (wS (Value.agg #[(vS x16.key), (vI x16.val)]) rfl (Step.loadEN (k := 0) (cs' := [(vS x16.key), (vI x16.val)]) Try.ag108 (flat_ec (M.rep 0 rfl) hx16 hitE_len) (by decide) rfl rfl rfl) ?_))))
     refine WL.store (v := (Value.agg #[(vS x16.key), (vI x16.val)])) (cs := [(vS x16.key), (vI x16.val)]) (c' := #[(vS x16.key), (vI x16.val)]) M 0 rfl rfl Try.el108.sized rfl rfl rfl rfl (nL rfl) (cC rfl (cC rfl cel_nil)) rfl rfl (fun w23 M => ?_)
     refine WL.nil (W.region rfl (wA (vB true) (WL.nil (W.region rfl (wM (vI ↑i_) (wS (vI (↑i_ + 1)) rfl (Step.add rfl rfl (wrap_i64 (by omega))) (wA (vI (↑i_ + 1)) (WL.nil ?_))))))))
     exact ⟨_, (by omega), i_ + 1, x16, true, ⟨(by omega), (rpeek_hit hx16 (by simpa using h17) (.inr (by simpa using h22))), rfl⟩, ⟨rfl, rfl, rfl, rfl, rfl, rfl, rfl, rfl, rfl⟩, M⟩
    ·
     refine W.skip (W.region rfl (wM (vI ↑i_) (wS (vI (↑i_ + 1)) rfl (Step.add rfl rfl (wrap_i64 (by omega))) (wA (vI (↑i_ + 1)) (WL.nil ?_)))))
     exact ⟨_, (by omega), i_ + 1, o_, fd_, ⟨(by omega), ((rpeek_keep hx16 (by rw [hpk_]; simpa using h18) (by simpa using h22)).trans hpk_), rfl⟩, ⟨rfl, rfl, rfl, rfl, rfl, rfl, rfl, rfl, rfl⟩, M⟩
  ·
   refine W.drawn M [0, 1, 2, 3, 4, 5, 6, 7, 8, 9, 10, 11, 12, 13, 14] [6] [] _ _ (sY (sY (sY sE))) (fun _ h => h) Try.mixed (by kernel_rfl) ?_
   refine tR (Value.agg #[(vS s.frm), (vS s.to_), (vB s.back), (vS s.at_), (vB s.told)]) rfl (fun A w M => (Step.loadN Try.ag46 rfl (M.blk 3 rfl) (nL rfl) rfl)) (tM v rfl (tM (vI ↑i_) rfl (tP (vQ v i_ 2) rfl (fun w => (sX i_ Try.un27 Try.el108 rfl rfl hb14)) (tQ (vQ v i_ 2) rfl (tR (vS x16.key) rfl (fun A w M => (Step.loadE (k := 0) Try.sc9 (flat_ec (M.rep 0 rfl) hx16 hitE_len) (by decide) rfl rfl)) ?_)))))
   let Q : List Chunk := [bk b7 #[(vS o_.key), (vI o_.val)] 108, bk b5 #[(vS sZ), (vI 0)] 108, bk b3 #[(vS s.frm), (vS s.to_), (vB s.back), (vS s.at_), (vB s.told)] 46]
   refine TW.callX (ι := Unit) (fun jx v_ => v_ = (vB (leftB s x16.key))) (fun jx => Q) (fun jx => [fR v l]) rfl (by decide) rfl (fun jx => (sY (sY (sY sE)))) (fun jx r h => h) (fun A w M => Rets.mono (r_left s x16.key (M.enterW0 trivial)) (fun v_ w_ ⟨e_, m⟩ => ⟨(), e_, (M.leaveW0 m).sel [0, 1, 2, 3] rfl (by decide), fun b hb => M.k0F m b hb⟩)) (fun w => CallsF.func Try.en56 rfl) (fun jx v hp hin => ?_)
   replace hp := hp.symm; subst hp
   clear hin
   rw [h17]
   refine tM (vB false) rfl ?_
   refine TW.skip rfl rfl ?_
   refine TW.skip rfl rfl ?_
   refine TW.skip rfl rfl ?_
   refine TW.skip rfl rfl ?_
   refine TW.skip rfl rfl ?_
   refine TW.skip rfl rfl ?_
   refine tP (vB false) rfl (fun w => (Step.pick (t := false) rfl rfl)) ?_
   refine TW.done (fun w24 M => ?_)
   refine W.cond (t := false) rfl (fun h => by cases h) (fun _ => ?_)
   refine W.skip (W.region rfl (wM (vI ↑i_) (wS (vI (↑i_ + 1)) rfl (Step.add rfl rfl (wrap_i64 (by omega))) (wA (vI (↑i_ + 1)) (WL.nil ?_)))))
   exact ⟨_, (by omega), i_ + 1, o_, fd_, ⟨(by omega), ((rpeek_no hx16 (by simpa using h17)).trans hpk_), rfl⟩, ⟨rfl, rfl, rfl, rfl, rfl, rfl, rfl, rfl, rfl⟩, M⟩
 ·
  have h13p := dF h13
  refine W.exit (thn_exit (thn_exit ?_))
  refine inBlk_hit ?_
  refine wR (wS (Value.agg #[(vS o_.key), (vI o_.val)]) rfl (Step.loadN Try.ag108 rfl (M.blk 0 rfl) (nL rfl) rfl) (wM (vB fd_) ?_))
  refine WL.store (v := (Value.agg #[(vS o_.key), (vI o_.val)])) (cs := [(vS o_.key), (vI o_.val)]) (c' := #[(vS o_.key), (vI o_.val)]) M 1 rfl rfl Try.el108.sized rfl rfl rfl rfl (nL rfl) (cC rfl (cC rfl cel_nil)) rfl rfl (fun w25 M => ?_)
  refine wA (vB fd_) (WL.nil ?_)
  refine W.ret ?_
  refine ⟨.inl rfl, (Value.tuple #[(Value.agg #[(vS o_.key), (vI o_.val)]), (vB fd_)]), ?_, ?_⟩
  · exact ⟨rfl, (Res.r2 (RV.cellN Try.ag108 rfl (M.blk 1 rfl) rfl) (show RV _ _ _ (.tmp 5) (vB fd_) from by exact rfl))⟩
  refine ⟨?_, M.close [] rfl (by decide) trivial⟩
  rw [show peekR s l = (o_, fd_) by rw [← hpk_, List.take_of_length_le (by omega)]]
theorem r_next {G : Nat → Prop} {w : World} (s : Scn) (v : Value) (l : List THit)   (M : Mem G (fun _ => False) w [] [fR v l] w) : Rets Try.prog 51 #[(Value.agg #[(vS s.frm), (vS s.to_), (vB s.back), (vS s.at_), (vB s.told)]), v] w fun r w' => r = (Value.tuple #[(Value.agg #[(vS ((nextR s l).frm)), (vS ((nextR s l).to_)), (vB ((nextR s l).back)), (vS ((nextR s l).at_)), (vB ((nextR s l).told))]), (Value.agg #[(vS (((peekR s l).1).key)), (vI (((peekR s l).1).val))]), (vB ((peekR s l).2))]) ∧ Mem G (fun _ => False) w [] [] w' := by
 refine Rets.enter 23 _ Try.func51 rfl Try.ntmps51 Try.results51 (by simp) ?_
 have hle1 := SlAt.le' (M.rep 0 rfl)
 have sl2 : IsSl v := SlAt.isSl (Mem.rep M 0 rfl)
 refine wR ?_
 refine WL.box (v := (Value.agg #[(vS s.frm), (vS s.to_), (vB s.back), (vS s.at_), (vB s.told)])) (c := #[(vS s.frm), (vS s.to_), (vB s.back), (vS s.at_), (vB s.told)]) M rfl rfl rfl (fun b3 w4 hb3 M => ?_)
 refine WL.alloc (c := #[(vS sZ), (vS sZ), (vB false), (vS sZ), (vB false)]) M rfl Try.el46.zero rfl (fun b5 w6 hb5 M => ?_)
 refine WL.alloc (c := #[(vS sZ), (vI 0)]) M rfl Try.el108.zero rfl (fun b7 w8 hb7 M => ?_)
 refine wA (vB false) (WL.nil (wR (wS (Value.agg #[(vS s.frm), (vS s.to_), (vB s.back), (vS s.at_), (vB s.told)]) rfl (Step.loadN Try.ag46 rfl (M.blk 2 rfl) (nL rfl) rfl) (wM v ?_))))
 refine WL.callX rfl (r_peek s v l (M.enterW0 ⟨(M.wideR0 0 rfl), trivial⟩)) (CallsF.func Try.en55 rfl) ?_
 rintro _ w9 ⟨rfl, m⟩
 replace M := M.leaveW0 m
 clear m
 refine wM (Value.tuple #[(Value.agg #[(vS (((peekR s l).1).key)), (vI (((peekR s l).1).val))]), (vB ((peekR s l).2))]) (wP (Value.agg #[(vS (((peekR s l).1).key)), (vI (((peekR s l).1).val))]) (wP (vB ((peekR s l).2)) ?_))
 refine WL.alloc (c := #[(vS sZ), (vI 0)]) M rfl Try.el108.zero rfl (fun b10 w11 hb10 M => ?_)
 refine WL.store (v := (Value.agg #[(vS (((peekR s l).1).key)), (vI (((peekR s l).1).val))])) (cs := [(vS (((peekR s l).1).key)), (vI (((peekR s l).1).val))]) (c' := #[(vS (((peekR s l).1).key)), (vI (((peekR s l).1).val))]) M 0 rfl rfl Try.el108.sized rfl rfl rfl rfl (nL rfl) (cC rfl (cC rfl cel_nil)) rfl rfl (fun w12 M => ?_)
 refine wA (vB ((peekR s l).2)) (WL.nil (W.seq' (wR (wM (vB ((peekR s l).2)) (WL.nil ?_)))))
 refine W.cond (t := (peekR s l).2) rfl (fun h13 => ?_) (fun h13 => ?_)
 ·
  refine wR (wP (vP b10) (wS (vS (((peekR s l).1).key)) rfl (Step.load1 Try.sc9 rfl ((M.cell 0 rfl 0).trans rfl)) (wP (Value.pointer (some ⟨b3, 3, none⟩)) ?_)))
  refine WL.store (v := (vS (((peekR s l).1).key))) (cs := [(vS (((peekR s l).1).key))]) (c' := #[(vS s.frm), (vS s.to_), (vB s.back), (vS (((peekR s l).1).key)), (vB s.told)]) M 3 rfl rfl Try.el9.sized rfl rfl rfl rfl (nL rfl) (cC rfl cel_nil) rfl rfl (fun w14 M => ?_)
  refine WL.nil (W.region rfl (wP (Value.pointer (some ⟨b3, 4, none⟩)) ?_))
  refine WL.store (v := (vB true)) (cs := [(vB true)]) (c' := #[(vS s.frm), (vS s.to_), (vB s.back), (vS (((peekR s l).1).key)), (vB true)]) M 3 rfl rfl Try.el4.sized rfl rfl rfl rfl (nL rfl) (cC rfl cel_nil) rfl rfl (fun w15 M => ?_)
  refine WL.nil (W.seq' ?_)
  refine W.drawn M [0, 1, 2, 3, 4, 5] [3, 4] [] _ _ (sY (sN (sN (sY sE)))) (fun _ h => h) Try.mixed (by kernel_rfl) ?_
  refine tR (Value.agg #[(vS s.frm), (vS s.to_), (vB s.back), (vS (((peekR s l).1).key)), (vB true)]) rfl (fun A w M => (Step.loadN Try.ag46 rfl (M.blk 2 rfl) (nL rfl) rfl)) (tR (Value.agg #[(vS (((peekR s l).1).key)), (vI (((peekR s l).1).val))]) rfl (fun A w M => (Step.loadN Try.ag108 rfl (M.blk 1 rfl) (nL rfl) rfl)) (tP (vB true) rfl (fun w => (Step.cast (congrArg Value.bool h13) (Step.move rfl))) ?_))
  refine TW.store (v := (Value.agg #[(vS s.frm), (vS s.to_), (vB s.back), (vS (((peekR s l).1).key)), (vB true)])) (cs := [(vS s.frm), (vS s.to_), (vB s.back), (vS (((peekR s l).1).key)), (vB true)]) (c' := #[(vS s.frm), (vS s.to_), (vB s.back), (vS (((peekR s l).1).key)), (vB true)]) 2 rfl rfl (by decide) rfl Try.el46.sized rfl rfl rfl rfl (nL rfl) (cC rfl (cC rfl (cC rfl (cC rfl (cC rfl cel_nil))))) rfl rfl (sY (sN (sN (sY sE)))) (fun r h => h) ?_
  refine TW.store (v := (Value.agg #[(vS (((peekR s l).1).key)), (vI (((peekR s l).1).val))])) (cs := [(vS (((peekR s l).1).key)), (vI (((peekR s l).1).val))]) (c' := #[(vS (((peekR s l).1).key)), (vI (((peekR s l).1).val))]) 1 rfl rfl (by decide) rfl Try.el108.sized rfl rfl rfl rfl (nL rfl) (cC rfl (cC rfl cel_nil)) rfl rfl (sY (sN (sN (sY sE)))) (fun r h => h) ?_
  refine tP (vB true) rfl (fun w => (Step.assign rfl)) ?_
  refine TW.done (fun w20 M => ?_)
  refine W.ret ?_
  refine ⟨.inl rfl, (Value.tuple #[(Value.agg #[(vS s.frm), (vS s.to_), (vB s.back), (vS (((peekR s l).1).key)), (vB true)]), (Value.agg #[(vS (((peekR s l).1).key)), (vI (((peekR s l).1).val))]), (vB true)]), ?_, ?_⟩
  · exact ⟨rfl, (Res.r3 (RV.cellN Try.ag46 rfl (M.blk 2 rfl) rfl) (RV.cellN Try.ag108 rfl (M.blk 1 rfl) rfl) (show RV _ _ _ (.tmp 6) (vB true) from by exact rfl))⟩
  refine ⟨?_, M.close [] rfl (by decide) trivial⟩
  have hok_ : (peekR s l).2 = true := by simpa using h13
  rw [next_hit hok_]
  try rw [hok_]
 ·
  refine W.skip (W.seq' ?_)
  refine W.drawn M [0, 1, 2, 3, 4, 5] [3, 4] [] _ _ (sY (sN (sN (sY sE)))) (fun _ h => h) Try.mixed (by kernel_rfl) ?_
  refine tR (Value.agg #[(vS s.frm), (vS s.to_), (vB s.back), (vS s.at_), (vB s.told)]) rfl (fun A w M => (Step.loadN Try.ag46 rfl (M.blk 2 rfl) (nL rfl) rfl)) (tR (Value.agg #[(vS (((peekR s l).1).key)), (vI (((peekR s l).1).val))]) rfl (fun A w M => (Step.loadN Try.ag108 rfl (M.blk 1 rfl) (nL rfl) rfl)) (tP (vB false) rfl (fun w => (Step.cast (congrArg Value.bool h13) (Step.move rfl))) ?_))
  refine TW.store (v := (Value.agg #[(vS s.frm), (vS s.to_), (vB s.back), (vS s.at_), (vB s.told)])) (cs := [(vS s.frm), (vS s.to_), (vB s.back), (vS s.at_), (vB s.told)]) (c' := #[(vS s.frm), (vS s.to_), (vB s.back), (vS s.at_), (vB s.told)]) 2 rfl rfl (by decide) rfl Try.el46.sized rfl rfl rfl rfl (nL rfl) (cC rfl (cC rfl (cC rfl (cC rfl (cC rfl cel_nil))))) rfl rfl (sY (sN (sN (sY sE)))) (fun r h => h) ?_
  refine TW.store (v := (Value.agg #[(vS (((peekR s l).1).key)), (vI (((peekR s l).1).val))])) (cs := [(vS (((peekR s l).1).key)), (vI (((peekR s l).1).val))]) (c' := #[(vS (((peekR s l).1).key)), (vI (((peekR s l).1).val))]) 1 rfl rfl (by decide) rfl Try.el108.sized rfl rfl rfl rfl (nL rfl) (cC rfl (cC rfl cel_nil)) rfl rfl (sY (sN (sN (sY sE)))) (fun r h => h) ?_
  refine tP (vB false) rfl (fun w => (Step.assign rfl)) ?_
  refine TW.done (fun w25 M => ?_)
  refine W.ret ?_
  refine ⟨.inl rfl, (Value.tuple #[(Value.agg #[(vS s.frm), (vS s.to_), (vB s.back), (vS s.at_), (vB s.told)]), (Value.agg #[(vS (((peekR s l).1).key)), (vI (((peekR s l).1).val))]), (vB false)]), ?_, ?_⟩
  · exact ⟨rfl, (Res.r3 (RV.cellN Try.ag46 rfl (M.blk 2 rfl) rfl) (RV.cellN Try.ag108 rfl (M.blk 1 rfl) rfl) (show RV _ _ _ (.tmp 6) (vB false) from by exact rfl))⟩
  refine ⟨?_, M.close [] rfl (by decide) trivial⟩
  have hok_ : (peekR s l).2 = false := by simpa using h13
  rw [next_no hok_]
  try rw [hok_]
end Go.Proofs
set_option maxRecDepth 100000
namespace Go.Proofs
open Go Tp
theorem Try.en51 : Enters Try.prog 51 := fun _ _ => by kernel_rfl
theorem r_page {G : Nat → Prop} {w : World} (s : Scn) (v : Value) (l : List THit) (n : Int)  (hb : l.length ≤ 400000) (hu : upT l) (M : Mem G (fun _ => False) w [] [fR v l] w) : Rets Try.prog 53 #[(Value.agg #[(vS s.frm), (vS s.to_), (vB s.back), (vS s.at_), (vB s.told)]), v, (vI n)] w fun r w' => ∃ (pv' : Value), r = (Value.tuple #[(Value.agg #[(vS ((pageS s l n).frm)), (vS ((pageS s l n).to_)), (vB ((pageS s l n).back)), (vS ((pageS s l n).at_)), (vB ((pageS s l n).told))]), pv', (vB (pageD s l n))]) ∧ Mem G (fun _ => False) w [] [fR pv' (pageL s l n)] w' := by
 refine Rets.enter 50 _ Try.func53 rfl Try.ntmps53 Try.results53 (by simp) ?_
 have hle1 := SlAt.le' (M.rep 0 rfl)
 have sl2 : IsSl v := SlAt.isSl (Mem.rep M 0 rfl)
 refine wR ?_
 refine WL.box (v := (Value.agg #[(vS s.frm), (vS s.to_), (vB s.back), (vS s.at_), (vB s.told)])) (c := #[(vS s.frm), (vS s.to_), (vB s.back), (vS s.at_), (vB s.told)]) M rfl rfl rfl (fun b3 w4 hb3 M => ?_)
 refine WL.alloc (c := #[(vS sZ), (vS sZ), (vB false), (vS sZ), (vB false)]) M rfl Try.el46.zero rfl (fun b5 w6 hb5 M => ?_)
 refine wA vZ (wA (vB false) (WL.nil (wR (wA vZ (WL.nil (W.seq' (wR (wA (vI 0) (WL.nil (W.block ?_))))))))))
 have hrl_ := rest_le (s := s) (row := l)
 replace M := M.ownNil 108 2
 replace M := M.rechunk 0 (c' := oQ vZ ((restR s l).take 0)) rfl rfl
 replace M := M.rechunk 2 (c' := bk b3 #[(vS ((stepsN 0 s l).frm)), (vS ((stepsN 0 s l).to_)), (vB ((stepsN 0 s l).back)), (vS ((stepsN 0 s l).at_)), (vB ((stepsN 0 s l).told))] 46) rfl rfl
 replace M := M.sel (L' := [oQ vZ ((restR s l).take 0), bk b3 #[(vS ((stepsN 0 s l).frm)), (vS ((stepsN 0 s l).to_)), (vB ((stepsN 0 s l).back)), (vS ((stepsN 0 s l).at_)), (vB ((stepsN 0 s l).told))] 46, bk b5 #[(vS sZ), (vS sZ), (vB false), (vS sZ), (vB false)] 46]) [0, 2, 1] rfl (by decide)
 refine W.loop (fun kk ρ w' => ∃ (i_ : Nat) (v_ : Value), (((i_ : Int) ≤ n ∨ i_ = 0) ∧ (i_ ≤ l.length) ∧ kk = l.length - i_) ∧ ρ.has [(1, v), (2, (vI n)), (3, (vP b3)), (6, (vP b5)), (7, vZ), (8, (vB false)), (9, v_), (10, (vI ↑i_))] ∧ Mem G (fun _ => False) w [oQ v_ ((restR s l).take i_), bk b3 #[(vS ((stepsN i_ s l).frm)), (vS ((stepsN i_ s l).to_)), (vB ((stepsN i_ s l).back)), (vS ((stepsN i_ s l).at_)), (vB ((stepsN i_ s l).told))] 46, bk b5 #[(vS sZ), (vS sZ), (vB false), (vS sZ), (vB false)] 46] [fR v l]  w') _ ⟨0, _, ⟨(.inr rfl), (Nat.zero_le _), rfl⟩, ⟨rfl, rfl, rfl, rfl, rfl, rfl, rfl, rfl, rfl, rfl⟩, M⟩ ?_
 rintro _ ρ8 w7 ⟨i_, v_, ⟨hi9, hi10, rfl⟩, hρ, M⟩
 obtain ⟨ρ8, rfl⟩ := hρ.know
 clear hρ
 have sl11 : IsSl v_ := SlAt.isSl (oW (M.chunk 0 rfl).inv)
 have hacl : ((restR s l).take i_).length ≤ 400000 := by rw [List.length_take]; omega
 refine W.seq' (wR (wM (vI ↑i_) (wM (vI n) (wP (vB (decide ((↑i_ : Int) < (n : Int)))) (wM (vB (decide ((↑i_ : Int) < (n : Int)))) ?_)))))
 rcases Bool.eq_false_or_eq_true (decide ((↑i_ : Int) < (n : Int))) with h12 | h12
 ·
  have h12p := dT h12
  rw [h12]
  refine wM (vI ↑i_) (wM v (wS (vI ↑l.length) rfl (Step.lenSl Try.un27 rfl (M.rep 0 rfl)) (wP (vB (decide ((↑i_ : Int) < (↑l.length : Int)))) (wS (vB (decide ((↑i_ : Int) < (↑l.length : Int)))) rfl (Step.pick (t := true) rfl rfl) (WL.nil ?_)))))
  refine W.cond (t := decide ((↑i_ : Int) < (↑l.length : Int))) rfl (fun h13 => ?_) (fun h13 => ?_)
  ·
   have h13p := dT h13
   refine W.skip (W.seq' (W.block (wR (wS (Value.agg #[(vS ((stepsN i_ s l).frm)), (vS ((stepsN i_ s l).to_)), (vB ((stepsN i_ s l).back)), (vS ((stepsN i_ s l).at_)), (vB ((stepsN i_ s l).told))]) rfl (Step.loadN Try.ag46 rfl (M.blk 1 rfl) (nL rfl) rfl) (wM v ?_)))))
   refine WL.callX rfl (r_next (stepsN i_ s l) v l (M.enterW0 ⟨(M.wideR0 0 rfl), trivial⟩)) (CallsF.func Try.en51 rfl) ?_
   rintro _ w14 ⟨rfl, m⟩
   replace M := M.leaveW0 m
   clear m
   refine wM (Value.tuple #[(Value.agg #[(vS ((nextR (stepsN i_ s l) l).frm)), (vS ((nextR (stepsN i_ s l) l).to_)), (vB ((nextR (stepsN i_ s l) l).back)), (vS ((nextR (stepsN i_ s l) l).at_)), (vB ((nextR (stepsN i_ s l) l).told))]), (Value.agg #[(vS (((peekR (stepsN i_ s l) l).1).key)), (vI (((peekR (stepsN i_ s l) l).1).val))]), (vB ((peekR (stepsN i_ s l) l).2))]) (wP (Value.agg #[(vS ((nextR (stepsN i_ s l) l).frm)), (vS ((nextR (stepsN i_ s l) l).to_)), (vB ((nextR (stepsN i_ s l) l).back)), (vS ((nextR (stepsN i_ s l) l).at_)), (vB ((nextR (stepsN i_ s l) l).told))]) (wP (Value.agg #[(vS (((peekR (stepsN i_ s l) l).1).key)), (vI (((peekR (stepsN i_ s l) l).1).val))]) (wP (vB ((peekR (stepsN i_ s l) l).2)) ?_)))
   refine WL.alloc (c := #[(vS sZ), (vS sZ), (vB false), (vS sZ), (vB false)]) M rfl Try.el46.zero rfl (fun b15 w16 hb15 M => ?_)
   refine WL.alloc (c := #[(vS sZ), (vI 0)]) M rfl Try.el108.zero rfl (fun b17 w18 hb17 M => ?_)
   refine WL.store (v := (Value.agg #[(vS ((nextR (stepsN i_ s l) l).frm)), (vS ((nextR (stepsN i_ s l) l).to_)), (vB ((nextR (stepsN i_ s l) l).back)), (vS ((nextR (stepsN i_ s l) l).at_)), (vB ((nextR (stepsN i_ s l) l).told))])) (cs := [(vS ((nextR (stepsN i_ s l) l).frm)), (vS ((nextR (stepsN i_ s l) l).to_)), (vB ((nextR (stepsN i_ s l) l).back)), (vS ((nextR (stepsN i_ s l) l).at_)), (vB ((nextR (stepsN i_ s l) l).told))]) (c' := #[(vS ((nextR (stepsN i_ s l) l).frm)), (vS ((nextR (stepsN i_ s l) l).to_)), (vB ((nextR (stepsN i_ s l) l).back)), (vS ((nextR (stepsN i_ s l) l).at_)), (vB ((nextR (stepsN i_ s l) l).told))]) M 1 rfl rfl Try.el46.sized rfl rfl rfl rfl (nL rfl) (cC rfl (cC rfl (cC rfl (cC rfl (cC rfl cel_nil))))) rfl rfl (fun w19 M => ?_)
   refine WL.store (v := (Value.agg #[(vS (((peekR (stepsN i_ s l) l).1).key)), (vI (((peekR (stepsN i_ s l) l).1).val))])) (cs := [(vS (((peekR (stepsN i_ s l) l).1).key)), (vI (((peekR (stepsN i_ s l) l).1).val))]) (c' := #[(vS (((peekR (stepsN i_ s l) l).1).key)), (vI (((peekR (stepsN i_ s l) l).1).val))]) M 0 rfl rfl Try.el108.sized rfl rfl rfl rfl (nL rfl) (cC rfl (cC rfl cel_nil)) rfl rfl (fun w20 M => ?_)
   refine wA (vB ((peekR (stepsN i_ s l) l).2)) (WL.nil (W.seq' (wR (wM (vB ((peekR (stepsN i_ s l) l).2)) (WL.nil ?_)))))
   refine W.cond (t := (peekR (stepsN i_ s l) l).2) rfl (fun h21 => ?_) (fun h21 => ?_)
   ·
    refine W.region rfl (wM v_ (wS (Value.agg #[(vS (((peekR (stepsN i_ s l) l).1).key)), (vI (((peekR (stepsN i_ s l) l).1).val))]) rfl (Step.loadN Try.ag108 rfl (M.blk 0 rfl) (nL rfl) rfl) ?_))
    refine WL.new (obj := .cells #[(vS (((peekR (stepsN i_ s l) l).1).key)), (vI (((peekR (stepsN i_ s l) l).1).val))] 108) (fun b => .slice (some ⟨b, 0, none⟩) 1 1) M rfl (fun w => Step.make (by kernel_rfl)) (fun b22 w23 hb22 M => ?_)
    refine WL.does rfl (M.appendF ((restR s l).take i_) ([((peekR (stepsN i_ s l) l).1)] : List THit) (sv := (Value.slice (some ⟨b22, 0, none⟩) 1 1)) 3 Try.un27 Try.el108 rfl (by decide) rfl rfl rfl (SlAt.of_blk (M.blk 0 rfl) rfl (by decide)) hitE_cel (by have := hacl; simp only [maxLen, List.length_nil, List.length_cons, List.length_append]; omega) (by have := hacl; (try simp only [List.length_nil, List.length_cons, List.length_append]); omega)) ?_
    rintro v24 w25 M
    have sl26 : IsSl v24 := SlAt.isSl (oW (M.chunk 3 rfl).inv)
    refine wA v24 (WL.nil (W.region rfl (wS (Value.agg #[(vS ((nextR (stepsN i_ s l) l).frm)), (vS ((nextR (stepsN i_ s l) l).to_)), (vB ((nextR (stepsN i_ s l) l).back)), (vS ((nextR (stepsN i_ s l) l).at_)), (vB ((nextR (stepsN i_ s l) l).told))]) rfl (Step.loadN Try.ag46 rfl (M.blk 2 rfl) (nL rfl) rfl) ?_)))
    refine WL.store (v := (Value.agg #[(vS ((nextR (stepsN i_ s l) l).frm)), (vS ((nextR (stepsN i_ s l) l).to_)), (vB ((nextR (stepsN i_ s l) l).back)), (vS ((nextR (stepsN i_ s l) l).at_)), (vB ((nextR (stepsN i_ s l) l).told))])) (cs := [(vS ((nextR (stepsN i_ s l) l).frm)), (vS ((nextR (stepsN i_ s l) l).to_)), (vB ((nextR (stepsN i_ s l) l).back)), (vS ((nextR (stepsN i_ s l) l).at_)), (vB ((nextR (stepsN i_ s l) l).told))]) (c' := #[(vS ((nextR (stepsN i_ s l) l).frm)), (vS ((nextR (stepsN i_ s l) l).to_)), (vB ((nextR (stepsN i_ s l) l).back)), (vS ((nextR (stepsN i_ s l) l).at_)), (vB ((nextR (stepsN i_ s l) l).told))]) M 4 rfl rfl Try.el46.sized rfl rfl rfl rfl (nL rfl) (cC rfl (cC rfl (cC rfl (cC rfl (cC rfl cel_nil))))) rfl rfl (fun w27 M => ?_)
    refine WL.nil (W.region rfl (wM (vI ↑i_) (wS (vI (↑i_ + 1)) rfl (Step.add rfl rfl (wrap_i64 (by omega))) (wA (vI (↑i_ + 1)) (WL.nil ?_)))))
    have hok_ : (peekR (stepsN i_ s l) l).2 = true := by simpa using h21
    replace M := M.rechunk 3 (c' := oQ v24 ((restR s l).take (i_ + 1))) rfl (by rw [take_hit hu hok_])
    replace M := M.rechunk 4 (c' := bk b3 #[(vS ((stepsN (i_ + 1) s l).frm)), (vS ((stepsN (i_ + 1) s l).to_)), (vB ((stepsN (i_ + 1) s l).back)), (vS ((stepsN (i_ + 1) s l).at_)), (vB ((stepsN (i_ + 1) s l).told))] 46) rfl rfl
    replace M := M.sel (L' := [oQ v24 ((restR s l).take (i_ + 1)), bk b3 #[(vS ((stepsN (i_ + 1) s l).frm)), (vS ((stepsN (i_ + 1) s l).to_)), (vB ((stepsN (i_ + 1) s l).back)), (vS ((stepsN (i_ + 1) s l).at_)), (vB ((stepsN (i_ + 1) s l).told))] 46, bk b5 #[(vS sZ), (vS sZ), (vB false), (vS sZ), (vB false)] 46]) [3, 4, 5] rfl (by decide)
    exact ⟨_, (by omega), i_ + 1, v24, ⟨(by omega), (by omega), rfl⟩, ⟨rfl, rfl, rfl, rfl, rfl, rfl, rfl, rfl, rfl, rfl⟩, M⟩
   ·
    refine W.skip (W.region rfl (wS (Value.agg #[(vS ((nextR (stepsN i_ s l) l).frm)), (vS ((nextR (stepsN i_ s l) l).to_)), (vB ((nextR (stepsN i_ s l) l).back)), (vS ((nextR (stepsN i_ s l) l).at_)), (vB ((nextR (stepsN i_ s l) l).told))]) rfl (Step.loadN Try.ag46 rfl (M.blk 1 rfl) (nL rfl) rfl) ?_))
    refine WL.store (v := (Value.agg #[(vS ((nextR (stepsN i_ s l) l).frm)), (vS ((nextR (stepsN i_ s l) l).to_)), (vB ((nextR (stepsN i_ s l) l).back)), (vS ((nextR (stepsN i_ s l) l).at_)), (vB ((nextR (stepsN i_ s l) l).told))])) (cs := [(vS ((nextR (stepsN i_ s l) l).frm)), (vS ((nextR (stepsN i_ s l) l).to_)), (vB ((nextR (stepsN i_ s l) l).back)), (vS ((nextR (stepsN i_ s l) l).at_)), (vB ((nextR (stepsN i_ s l) l).told))]) (c' := #[(vS ((nextR (stepsN i_ s l) l).frm)), (vS ((nextR (stepsN i_ s l) l).to_)), (vB ((nextR (stepsN i_ s l) l).back)), (vS ((nextR (stepsN i_ s l) l).at_)), (vB ((nextR (stepsN i_ s l) l).told))]) M 3 rfl rfl Try.el46.sized rfl rfl rfl rfl (nL rfl) (cC rfl (cC rfl (cC rfl (cC rfl (cC rfl cel_nil))))) rfl rfl (fun w28 M => ?_)
    refine WL.nil (W.region rfl (wM (vI ↑i_) (wS (vI (↑i_ + 1)) rfl (Step.add rfl rfl (wrap_i64 (by omega))) (wA (vI (↑i_ + 1)) (WL.nil ?_)))))
    have hok_ : (peekR (stepsN i_ s l) l).2 = false := by simpa using h21
    replace M := M.rechunk 2 (c' := oQ v_ ((restR s l).take (i_ + 1))) rfl (by rw [take_miss hu hok_])
    replace M := M.rechunk 3 (c' := bk b3 #[(vS ((stepsN (i_ + 1) s l).frm)), (vS ((stepsN (i_ + 1) s l).to_)), (vB ((stepsN (i_ + 1) s l).back)), (vS ((stepsN (i_ + 1) s l).at_)), (vB ((stepsN (i_ + 1) s l).told))] 46) rfl rfl
    replace M := M.sel (L' := [oQ v_ ((restR s l).take (i_ + 1)), bk b3 #[(vS ((stepsN (i_ + 1) s l).frm)), (vS ((stepsN (i_ + 1) s l).to_)), (vB ((stepsN (i_ + 1) s l).back)), (vS ((stepsN (i_ + 1) s l).at_)), (vB ((stepsN (i_ + 1) s l).told))] 46, bk b5 #[(vS sZ), (vS sZ), (vB false), (vS sZ), (vB false)] 46]) [2, 3, 4] rfl (by decide)
    exact ⟨_, (by omega), i_ + 1, v_, ⟨(by omega), (by omega), rfl⟩, ⟨rfl, rfl, rfl, rfl, rfl, rfl, rfl, rfl, rfl, rfl⟩, M⟩
  ·
   have h13p := dF h13
   refine W.exit (thn_exit (thn_exit ?_))
   refine inBlk_hit ?_
   refine wR (wS (Value.agg #[(vS ((stepsN i_ s l).frm)), (vS ((stepsN i_ s l).to_)), (vB ((stepsN i_ s l).back)), (vS ((stepsN i_ s l).at_)), (vB ((stepsN i_ s l).told))]) rfl (Step.loadN Try.ag46 rfl (M.blk 1 rfl) (nL rfl) rfl) (wM v ?_))
   refine WL.callX rfl (r_peek (stepsN i_ s l) v l (M.enterW0 ⟨(M.wideR0 0 rfl), trivial⟩)) (CallsF.func Try.en55 rfl) ?_
   rintro _ w29 ⟨rfl, m⟩
   replace M := M.leaveW0 m
   clear m
   refine wM (Value.tuple #[(Value.agg #[(vS (((peekR (stepsN i_ s l) l).1).key)), (vI (((peekR (stepsN i_ s l) l).1).val))]), (vB ((peekR (stepsN i_ s l) l).2))]) (wP (Value.agg #[(vS (((peekR (stepsN i_ s l) l).1).key)), (vI (((peekR (stepsN i_ s l) l).1).val))]) (wP (vB ((peekR (stepsN i_ s l) l).2)) ?_))
   refine WL.alloc (c := #[(vS sZ), (vI 0)]) M rfl Try.el108.zero rfl (fun b30 w31 hb30 M => ?_)
   refine WL.store (v := (Value.agg #[(vS (((peekR (stepsN i_ s l) l).1).key)), (vI (((peekR (stepsN i_ s l) l).1).val))])) (cs := [(vS (((peekR (stepsN i_ s l) l).1).key)), (vI (((peekR (stepsN i_ s l) l).1).val))]) (c' := #[(vS (((peekR (stepsN i_ s l) l).1).key)), (vI (((peekR (stepsN i_ s l) l).1).val))]) M 0 rfl rfl Try.el108.sized rfl rfl rfl rfl (nL rfl) (cC rfl (cC rfl cel_nil)) rfl rfl (fun w32 M => ?_)
   refine wA (vB ((peekR (stepsN i_ s l) l).2)) (WL.nil (wR (wS (Value.agg #[(vS ((stepsN i_ s l).frm)), (vS ((stepsN i_ s l).to_)), (vB ((stepsN i_ s l).back)), (vS ((stepsN i_ s l).at_)), (vB ((stepsN i_ s l).told))]) rfl (Step.loadN Try.ag46 rfl (M.blk 2 rfl) (nL rfl) rfl) (wM v_ (wM (vB ((peekR (stepsN i_ s l) l).2)) (wP (vB (!((peekR (stepsN i_ s l) l).2))) ?_))))))
   refine WL.store (v := (Value.agg #[(vS ((stepsN i_ s l).frm)), (vS ((stepsN i_ s l).to_)), (vB ((stepsN i_ s l).back)), (vS ((stepsN i_ s l).at_)), (vB ((stepsN i_ s l).told))])) (cs := [(vS ((stepsN i_ s l).frm)), (vS ((stepsN i_ s l).to_)), (vB ((stepsN i_ s l).back)), (vS ((stepsN i_ s l).at_)), (vB ((stepsN i_ s l).told))]) (c' := #[(vS ((stepsN i_ s l).frm)), (vS ((stepsN i_ s l).to_)), (vB ((stepsN i_ s l).back)), (vS ((stepsN i_ s l).at_)), (vB ((stepsN i_ s l).told))]) M 3 rfl rfl Try.el46.sized rfl rfl rfl rfl (nL rfl) (cC rfl (cC rfl (cC rfl (cC rfl (cC rfl cel_nil))))) rfl rfl (fun w33 M => ?_)
   refine wA v_ (wA (vB (!((peekR (stepsN i_ s l) l).2))) (WL.nil ?_))
   refine W.ret ?_
   refine ⟨.inl rfl, (Value.tuple #[(Value.agg #[(vS ((stepsN i_ s l).frm)), (vS ((stepsN i_ s l).to_)), (vB ((stepsN i_ s l).back)), (vS ((stepsN i_ s l).at_)), (vB ((stepsN i_ s l).told))]), v_, (vB (!((peekR (stepsN i_ s l) l).2)))]), ?_, ?_⟩
   · exact ⟨rfl, (Res.r3 (RV.cellN Try.ag46 rfl (M.blk 3 rfl) rfl) (show RV _ _ _ (.tmp 7) v_ from by exact rfl) (show RV _ _ _ (.tmp 8) (vB (!((peekR (stepsN i_ s l) l).2))) from by exact rfl))⟩
   have hpg_ := page_ref (n := i_) (s := s) hu (q := n) (by assumption) (by omega)
   replace M := M.shareOwn 1 rfl
   have e34 : pageL s l n = (restR s l).take i_ := by
    exact hpg_.2.symm
   have hf35 := Sh.reList e34 (M.shr' 0 rfl)
   refine ⟨v_, ?_, M.close [] rfl (by decide) ⟨hf35, trivial⟩⟩
   unfold pageD; rw [hpg_.1]
 ·
  have h12p := dF h12
  rw [h12]
  refine WL.pass rfl (WL.pass rfl (WL.pass rfl (WL.pass rfl (wS (vB false) rfl (Step.pick (t := false) rfl rfl) (WL.nil ?_)))))
  refine W.cond (t := false) rfl (fun h => by cases h) (fun _ => ?_)
  refine W.exit (thn_exit (thn_exit ?_))
  refine inBlk_hit ?_
  refine wR (wS (Value.agg #[(vS ((stepsN i_ s l).frm)), (vS ((stepsN i_ s l).to_)), (vB ((stepsN i_ s l).back)), (vS ((stepsN i_ s l).at_)), (vB ((stepsN i_ s l).told))]) rfl (Step.loadN Try.ag46 rfl (M.blk 1 rfl) (nL rfl) rfl) (wM v ?_))
  refine WL.callX rfl (r_peek (stepsN i_ s l) v l (M.enterW0 ⟨(M.wideR0 0 rfl), trivial⟩)) (CallsF.func Try.en55 rfl) ?_
  rintro _ w36 ⟨rfl, m⟩
  replace M := M.leaveW0 m
  clear m
  refine wM (Value.tuple #[(Value.agg #[(vS (((peekR (stepsN i_ s l) l).1).key)), (vI (((peekR (stepsN i_ s l) l).1).val))]), (vB ((peekR (stepsN i_ s l) l).2))]) (wP (Value.agg #[(vS (((peekR (stepsN i_ s l) l).1).key)), (vI (((peekR (stepsN i_ s l) l).1).val))]) (wP (vB ((peekR (stepsN i_ s l) l).2)) ?_))
  refine WL.alloc (c := #[(vS sZ), (vI 0)]) M rfl Try.el108.zero rfl (fun b37 w38 hb37 M => ?_)
  refine WL.store (v := (Value.agg #[(vS (((peekR (stepsN i_ s l) l).1).key)), (vI (((peekR (stepsN i_ s l) l).1).val))])) (cs := [(vS (((peekR (stepsN i_ s l) l).1).key)), (vI (((peekR (stepsN i_ s l) l).1).val))]) (c' := #[(vS (((peekR (stepsN i_ s l) l).1).key)), (vI (((peekR (stepsN i_ s l) l).1).val))]) M 0 rfl rfl Try.el108.sized rfl rfl rfl rfl (nL rfl) (cC rfl (cC rfl cel_nil)) rfl rfl (fun w39 M => ?_)
  refine wA (vB ((peekR (stepsN i_ s l) l).2)) (WL.nil (wR (wS (Value.agg #[(vS ((stepsN i_ s l).frm)), (vS ((stepsN i_ s l).to_)), (vB ((stepsN i_ s l).back)), (vS ((stepsN i_ s l).at_)), (vB ((stepsN i_ s l).told))]) rfl (Step.loadN Try.ag46 rfl (M.blk 2 rfl) (nL rfl) rfl) (wM v_ (wM (vB ((peekR (stepsN i_ s l) l).2)) (wP (vB (!((peekR (stepsN i_ s l) l).2))) ?_))))))
  refine WL.store (v := (Value.agg #[(vS ((stepsN i_ s l).frm)), (vS ((stepsN i_ s l).to_)), (vB ((stepsN i_ s l).back)), (vS ((stepsN i_ s l).at_)), (vB ((stepsN i_ s l).told))])) (cs := [(vS ((stepsN i_ s l).frm)), (vS ((stepsN i_ s l).to_)), (vB ((stepsN i_ s l).back)), (vS ((stepsN i_ s l).at_)), (vB ((stepsN i_ s l).told))]) (c' := #[(vS ((stepsN i_ s l).frm)), (vS ((stepsN i_ s l).to_)), (vB ((stepsN i_ s l).back)), (vS ((stepsN i_ s l).at_)), (vB ((stepsN i_ s l).told))]) M 3 rfl rfl Try.el46.sized rfl rfl rfl rfl (nL rfl) (cC rfl (cC rfl (cC rfl (cC rfl (cC rfl cel_nil))))) rfl rfl (fun w40 M => ?_)
  refine wA v_ (wA (vB (!((peekR (stepsN i_ s l) l).2))) (WL.nil ?_))
  refine W.ret ?_
  refine ⟨.inl rfl, (Value.tuple #[(Value.agg #[(vS ((stepsN i_ s l).frm)), (vS ((stepsN i_ s l).to_)), (vB ((stepsN i_ s l).back)), (vS ((stepsN i_ s l).at_)), (vB ((stepsN i_ s l).told))]), v_, (vB (!((peekR (stepsN i_ s l) l).2)))]), ?_, ?_⟩
  · exact ⟨rfl, (Res.r3 (RV.cellN Try.ag46 rfl (M.blk 3 rfl) rfl) (show RV _ _ _ (.tmp 7) v_ from by exact rfl) (show RV _ _ _ (.tmp 8) (vB (!((peekR (stepsN i_ s l) l).2))) from by exact rfl))⟩
  have hpg_ := page_ref (n := i_) (s := s) hu (q := n) (by assumption) (by omega)
  replace M := M.shareOwn 1 rfl
  have e41 : pageL s l n = (restR s l).take i_ := by
   exact hpg_.2.symm
  have hf42 := Sh.reList e41 (M.shr' 0 rfl)
  refine ⟨v_, ?_, M.close [] rfl (by decide) ⟨hf42, trivial⟩⟩
  unfold pageD; rw [hpg_.1]
theorem r_skip {G : Nat → Prop} {w : World} (s : Scn) (k : ByteArray)   (M : Mem G (fun _ => False) w [] [] w) : Rets Try.prog 54 #[(Value.agg #[(vS s.frm), (vS s.to_), (vB s.back), (vS s.at_), (vB s.told)]), (vS k)] w fun r w' => r = (Value.tuple #[(Value.agg #[(vS (((skipS s k).1).frm)), (vS (((skipS s k).1).to_)), (vB (((skipS s k).1).back)), (vS (((skipS s k).1).at_)), (vB (((skipS s k).1).told))]), (vB ((skipS s k).2))]) ∧ Mem G (fun _ => False) w [] [] w' := by
 refine Rets.enter 34 _ Try.func54 rfl Try.ntmps54 Try.results54 (by simp) ?_
 refine wR ?_
 refine WL.box (v := (Value.agg #[(vS s.frm), (vS s.to_), (vB s.back), (vS s.at_), (vB s.told)])) (c := #[(vS s.frm), (vS s.to_), (vB s.back), (vS s.at_), (vB s.told)]) M rfl rfl rfl (fun b1 w2 hb1 M => ?_)
 refine WL.alloc (c := #[(vS sZ), (vS sZ), (vB false), (vS sZ), (vB false)]) M rfl Try.el46.zero rfl (fun b3 w4 hb3 M => ?_)
 refine wA (vB false) (WL.nil (W.seq' (wR (wP (Value.pointer (some ⟨b1, 4, none⟩)) (wS (vB s.told) rfl (Step.load1 Try.sc4 rfl ((M.cell 1 rfl 4).trans rfl)) (wM (vB s.told) ?_))))))
 rcases Bool.eq_false_or_eq_true (s.told) with h5 | h5
 ·
  rw [h5]
  refine wP (Value.pointer (some ⟨b1, 2, none⟩)) (wS (vB s.back) rfl (Step.load1 Try.sc4 rfl ((M.cell 1 rfl 2).trans rfl)) (wM (vB s.back) ?_))
  rcases Bool.eq_false_or_eq_true (s.back) with h6 | h6
  ·
   rw [h6]
   refine wM (vS k) (wP (Value.pointer (some ⟨b1, 3, none⟩)) (wS (vS s.at_) rfl (Step.load1 Try.sc9 rfl ((M.cell 1 rfl 3).trans rfl)) (wP (vB (!(sLt k s.at_))) (wS (vB (!(sLt k s.at_))) rfl (Step.pick (t := true) rfl rfl) (wM (vB (!(sLt k s.at_))) ?_)))))
   rcases Bool.eq_false_or_eq_true (!(sLt k s.at_)) with h7 | h7
   ·
    rw [h7]
    refine WL.pass rfl (WL.pass rfl (WL.pass rfl (WL.pass rfl (WL.pass rfl (WL.pass rfl (WL.pass rfl (WL.pass rfl (WL.pass rfl (wS (vB true) rfl (Step.pick (t := true) rfl rfl) (wS (vB true) rfl (Step.pick (t := true) rfl rfl) (WL.nil ?_)))))))))))
    refine W.cond (t := true) rfl (fun _ => ?_) (fun h => by cases h)
    refine wR (wS (Value.agg #[(vS s.frm), (vS s.to_), (vB s.back), (vS s.at_), (vB s.told)]) rfl (Step.loadN Try.ag46 rfl (M.blk 1 rfl) (nL rfl) rfl) ?_)
    refine WL.store (v := (Value.agg #[(vS s.frm), (vS s.to_), (vB s.back), (vS s.at_), (vB s.told)])) (cs := [(vS s.frm), (vS s.to_), (vB s.back), (vS s.at_), (vB s.told)]) (c' := #[(vS s.frm), (vS s.to_), (vB s.back), (vS s.at_), (vB s.told)]) M 0 rfl rfl Try.el46.sized rfl rfl rfl rfl (nL rfl) (cC rfl (cC rfl (cC rfl (cC rfl (cC rfl cel_nil))))) rfl rfl (fun w8 M => ?_)
    refine wA (vB false) (WL.nil ?_)
    refine W.ret ?_
    refine ⟨.inl rfl, (Value.tuple #[(Value.agg #[(vS s.frm), (vS s.to_), (vB s.back), (vS s.at_), (vB s.told)]), (vB false)]), ?_, ?_⟩
    · exact ⟨rfl, (Res.r2 (RV.cellN Try.ag46 rfl (M.blk 0 rfl) rfl) (show RV _ _ _ (.tmp 5) (vB false) from by exact rfl))⟩
    refine ⟨?_, M.close [] rfl (by decide) trivial⟩
    have hsk_ : (s.told && ((s.back && !(sLt k s.at_)) || (!s.back && !(sLt s.at_ k)))) = true := by
     (try simp only [sGt, sLe] at *); simp_all
    rw [skip_no hsk_]
   ·
    rw [h7]
    refine wP (Value.pointer (some ⟨b1, 2, none⟩)) (wS (vB true) rfl (Step.cast (congrArg Value.bool h6) (Step.load1 Try.sc4 rfl ((M.cell 1 rfl 2).trans rfl))) (wP (vB false) (wM (vB false) (WL.pass rfl (WL.pass rfl (WL.pass rfl (WL.pass rfl (wS (vB false) rfl (Step.pick (t := false) rfl rfl) (wS (vB false) rfl (Step.pick (t := false) rfl rfl) (wS (vB false) rfl (Step.pick (t := true) rfl rfl) (WL.nil ?_)))))))))))
    refine W.cond (t := false) rfl (fun h => by cases h) (fun _ => ?_)
    refine W.skip (wR (wM (vS k) (wP (Value.pointer (some ⟨b1, 3, none⟩)) ?_)))
    refine WL.store (v := (vS k)) (cs := [(vS k)]) (c' := #[(vS s.frm), (vS s.to_), (vB s.back), (vS k), (vB s.told)]) M 1 rfl rfl Try.el9.sized rfl rfl rfl rfl (nL rfl) (cC rfl cel_nil) rfl rfl (fun w9 M => ?_)
    refine WL.nil (wR (wP (Value.pointer (some ⟨b1, 4, none⟩)) ?_))
    refine WL.store (v := (vB true)) (cs := [(vB true)]) (c' := #[(vS s.frm), (vS s.to_), (vB s.back), (vS k), (vB true)]) M 1 rfl rfl Try.el4.sized rfl rfl rfl rfl (nL rfl) (cC rfl cel_nil) rfl rfl (fun w10 M => ?_)
    refine WL.nil (wR (wS (Value.agg #[(vS s.frm), (vS s.to_), (vB s.back), (vS k), (vB true)]) rfl (Step.loadN Try.ag46 rfl (M.blk 1 rfl) (nL rfl) rfl) ?_))
    refine WL.store (v := (Value.agg #[(vS s.frm), (vS s.to_), (vB s.back), (vS k), (vB true)])) (cs := [(vS s.frm), (vS s.to_), (vB s.back), (vS k), (vB true)]) (c' := #[(vS s.frm), (vS s.to_), (vB s.back), (vS k), (vB true)]) M 0 rfl rfl Try.el46.sized rfl rfl rfl rfl (nL rfl) (cC rfl (cC rfl (cC rfl (cC rfl (cC rfl cel_nil))))) rfl rfl (fun w11 M => ?_)
    refine wA (vB true) (WL.nil ?_)
    refine W.ret ?_
    refine ⟨.inl rfl, (Value.tuple #[(Value.agg #[(vS s.frm), (vS s.to_), (vB s.back), (vS k), (vB true)]), (vB true)]), ?_, ?_⟩
    · exact ⟨rfl, (Res.r2 (RV.cellN Try.ag46 rfl (M.blk 0 rfl) rfl) (show RV _ _ _ (.tmp 5) (vB true) from by exact rfl))⟩
    refine ⟨?_, M.close [] rfl (by decide) trivial⟩
    have hsk_ : (s.told && ((s.back && !(sLt k s.at_)) || (!s.back && !(sLt s.at_ k)))) = false := by
     (try simp only [sGt, sLe] at *); simp_all
    rw [skip_yes hsk_]
  ·
   rw [h6]
   refine WL.pass rfl (WL.pass rfl (WL.pass rfl (WL.pass rfl (wS (vB false) rfl (Step.pick (t := false) rfl rfl) (wM (vB false) (wP (Value.pointer (some ⟨b1, 2, none⟩)) (wS (vB false) rfl (Step.cast (congrArg Value.bool h6) (Step.load1 Try.sc4 rfl ((M.cell 1 rfl 2).trans rfl))) (wP (vB true) (wM (vB true) (wM (vS k) (wP (Value.pointer (some ⟨b1, 3, none⟩)) (wS (vS s.at_) rfl (Step.load1 Try.sc9 rfl ((M.cell 1 rfl 3).trans rfl)) (wP (vB (sLt k s.at_ || k.toList == s.at_.toList)) (wS (vB (sLt k s.at_ || k.toList == s.at_.toList)) rfl (Step.pick (t := true) rfl rfl) (wS (vB (sLt k s.at_ || k.toList == s.at_.toList)) rfl (Step.pick (t := false) rfl rfl) (wS (vB (sLt k s.at_ || k.toList == s.at_.toList)) rfl (Step.pick (t := true) rfl rfl) (WL.nil ?_)))))))))))))))))
   refine W.cond (t := sLt k s.at_ || k.toList == s.at_.toList) rfl (fun h12 => ?_) (fun h12 => ?_)
   ·
    refine wR (wS (Value.agg #[(vS s.frm), (vS s.to_), (vB s.back), (vS s.at_), (vB s.told)]) rfl (Step.loadN Try.ag46 rfl (M.blk 1 rfl) (nL rfl) rfl) ?_)
    refine WL.store (v := (Value.agg #[(vS s.frm), (vS s.to_), (vB s.back), (vS s.at_), (vB s.told)])) (cs := [(vS s.frm), (vS s.to_), (vB s.back), (vS s.at_), (vB s.told)]) (c' := #[(vS s.frm), (vS s.to_), (vB s.back), (vS s.at_), (vB s.told)]) M 0 rfl rfl Try.el46.sized rfl rfl rfl rfl (nL rfl) (cC rfl (cC rfl (cC rfl (cC rfl (cC rfl cel_nil))))) rfl rfl (fun w13 M => ?_)
    refine wA (vB false) (WL.nil ?_)
    refine W.ret ?_
    refine ⟨.inl rfl, (Value.tuple #[(Value.agg #[(vS s.frm), (vS s.to_), (vB s.back), (vS s.at_), (vB s.told)]), (vB false)]), ?_, ?_⟩
    · exact ⟨rfl, (Res.r2 (RV.cellN Try.ag46 rfl (M.blk 0 rfl) rfl) (show RV _ _ _ (.tmp 5) (vB false) from by exact rfl))⟩
    refine ⟨?_, M.close [] rfl (by decide) trivial⟩
    have hsk_ : (s.told && ((s.back && !(sLt k s.at_)) || (!s.back && !(sLt s.at_ k)))) = true := by
     (try simp only [sGt, sLe] at *); simp_all
    rw [skip_no hsk_]
   ·
    refine W.skip (wR (wM (vS k) (wP (Value.pointer (some ⟨b1, 3, none⟩)) ?_)))
    refine WL.store (v := (vS k)) (cs := [(vS k)]) (c' := #[(vS s.frm), (vS s.to_), (vB s.back), (vS k), (vB s.told)]) M 1 rfl rfl Try.el9.sized rfl rfl rfl rfl (nL rfl) (cC rfl cel_nil) rfl rfl (fun w14 M => ?_)
    refine WL.nil (wR (wP (Value.pointer (some ⟨b1, 4, none⟩)) ?_))
    refine WL.store (v := (vB true)) (cs := [(vB true)]) (c' := #[(vS s.frm), (vS s.to_), (vB s.back), (vS k), (vB true)]) M 1 rfl rfl Try.el4.sized rfl rfl rfl rfl (nL rfl) (cC rfl cel_nil) rfl rfl (fun w15 M => ?_)
    refine WL.nil (wR (wS (Value.agg #[(vS s.frm), (vS s.to_), (vB s.back), (vS k), (vB true)]) rfl (Step.loadN Try.ag46 rfl (M.blk 1 rfl) (nL rfl) rfl) ?_))
    refine WL.store (v := (Value.agg #[(vS s.frm), (vS s.to_), (vB s.back), (vS k), (vB true)])) (cs := [(vS s.frm), (vS s.to_), (vB s.back), (vS k), (vB true)]) (c' := #[(vS s.frm), (vS s.to_), (vB s.back), (vS k), (vB true)]) M 0 rfl rfl Try.el46.sized rfl rfl rfl rfl (nL rfl) (cC rfl (cC rfl (cC rfl (cC rfl (cC rfl cel_nil))))) rfl rfl (fun w16 M => ?_)
    refine wA (vB true) (WL.nil ?_)
    refine W.ret ?_
    refine ⟨.inl rfl, (Value.tuple #[(Value.agg #[(vS s.frm), (vS s.to_), (vB s.back), (vS k), (vB true)]), (vB true)]), ?_, ?_⟩
    · exact ⟨rfl, (Res.r2 (RV.cellN Try.ag46 rfl (M.blk 0 rfl) rfl) (show RV _ _ _ (.tmp 5) (vB true) from by exact rfl))⟩
    refine ⟨?_, M.close [] rfl (by decide) trivial⟩
    have hsk_ : (s.told && ((s.back && !(sLt k s.at_)) || (!s.back && !(sLt s.at_ k)))) = false := by
     (try simp only [sGt, sLe] at *); simp_all
    rw [skip_yes hsk_]
 ·
  rw [h5]
  refine WL.pass rfl (WL.pass rfl (WL.pass rfl (WL.pass rfl (WL.pass rfl (WL.pass rfl (WL.pass rfl (WL.pass rfl (WL.pass rfl (WL.pass rfl (WL.pass rfl (WL.pass rfl (WL.pass rfl (WL.pass rfl (WL.pass rfl (WL.pass rfl (WL.pass rfl (WL.pass rfl (WL.pass rfl (wS (vB false) rfl (Step.pick (t := false) rfl rfl) (WL.nil ?_))))))))))))))))))))
  refine W.cond (t := false) rfl (fun h => by cases h) (fun _ => ?_)
  refine W.skip (wR (wM (vS k) (wP (Value.pointer (some ⟨b1, 3, none⟩)) ?_)))
  refine WL.store (v := (vS k)) (cs := [(vS k)]) (c' := #[(vS s.frm), (vS s.to_), (vB s.back), (vS k), (vB s.told)]) M 1 rfl rfl Try.el9.sized rfl rfl rfl rfl (nL rfl) (cC rfl cel_nil) rfl rfl (fun w17 M => ?_)
  refine WL.nil (wR (wP (Value.pointer (some ⟨b1, 4, none⟩)) ?_))
  refine WL.store (v := (vB true)) (cs := [(vB true)]) (c' := #[(vS s.frm), (vS s.to_), (vB s.back), (vS k), (vB true)]) M 1 rfl rfl Try.el4.sized rfl rfl rfl rfl (nL rfl) (cC rfl cel_nil) rfl rfl (fun w18 M => ?_)
  refine WL.nil (wR (wS (Value.agg #[(vS s.frm), (vS s.to_), (vB s.back), (vS k), (vB true)]) rfl (Step.loadN Try.ag46 rfl (M.blk 1 rfl) (nL rfl) rfl) ?_))
  refine WL.store (v := (Value.agg #[(vS s.frm), (vS s.to_), (vB s.back), (vS k), (vB true)])) (cs := [(vS s.frm), (vS s.to_), (vB s.back), (vS k), (vB true)]) (c' := #[(vS s.frm), (vS s.to_), (vB s.back), (vS k), (vB true)]) M 0 rfl rfl Try.el46.sized rfl rfl rfl rfl (nL rfl) (cC rfl (cC rfl (cC rfl (cC rfl (cC rfl cel_nil))))) rfl rfl (fun w19 M => ?_)
  refine wA (vB true) (WL.nil ?_)
  refine W.ret ?_
  refine ⟨.inl rfl, (Value.tuple #[(Value.agg #[(vS s.frm), (vS s.to_), (vB s.back), (vS k), (vB true)]), (vB true)]), ?_, ?_⟩
  · exact ⟨rfl, (Res.r2 (RV.cellN Try.ag46 rfl (M.blk 0 rfl) rfl) (show RV _ _ _ (.tmp 5) (vB true) from by exact rfl))⟩
  refine ⟨?_, M.close [] rfl (by decide) trivial⟩
  have hsk_ : (s.told && ((s.back && !(sLt k s.at_)) || (!s.back && !(sLt s.at_ k)))) = false := by
   (try simp only [sGt, sLe] at *); simp_all
  rw [skip_yes hsk_]
theorem r_count {G : Nat → Prop} {w : World} (v : Value) (l : List THit) (f : ByteArray) (t : ByteArray)  (hb : l.length ≤ 400000) (M : Mem G (fun _ => False) w [] [fR v l] w) : Rets Try.prog 23 #[v, (vS f), (vS t)] w fun r w' => r = (vI (↑(countR l f t))) ∧ Mem G (fun _ => False) w [] [] w' := by
 refine Rets.enter 27 _ Try.func23 rfl Try.ntmps23 Try.results23 (by simp) ?_
 have hle1 := SlAt.le' (M.rep 0 rfl)
 have sl2 : IsSl v := SlAt.isSl (Mem.rep M 0 rfl)
 refine wR (wA (vI 0) (WL.nil (wR (wA (vI 0) (WL.nil (W.seq' (wR (wA (vI 0) (WL.nil (W.block ?_))))))))))
 refine W.loop (fun kk ρ w' => ∃ (i_ : Nat) (q_ : Nat), ((i_ ≤ l.length) ∧ (countR (l.take i_) f t = q_) ∧ kk = l.length - i_) ∧ ρ.has [(0, v), (1, (vS f)), (2, (vS t)), (6, (vI 0)), (7, (vI ↑q_)), (8, (vI ↑i_))] ∧ Mem G (fun _ => False) w [] [fR v l]  w') _ ⟨0, 0, ⟨(Nat.zero_le _), count_zero, rfl⟩, ⟨rfl, rfl, rfl, rfl, rfl, rfl, rfl, rfl⟩, M⟩ ?_
 rintro _ ρ4 w3 ⟨i_, q_, ⟨hi5, hi6, rfl⟩, hρ, M⟩
 obtain ⟨ρ4, rfl⟩ := hρ.know
 clear hρ
 have hct_ : countR (l.take i_) f t = q_ := hi6
 have hcl_ := count_le (row := l.take i_) (f := f) (t := t)
 rw [List.length_take] at hcl_
 refine W.seq' (wR (wM (vI ↑i_) (wM v (wS (vI ↑l.length) rfl (Step.lenSl Try.un27 rfl (M.rep 0 rfl)) (wP (vB (decide ((↑i_ : Int) < (↑l.length : Int)))) (WL.nil ?_))))))
 refine W.cond (t := decide ((↑i_ : Int) < (↑l.length : Int))) rfl (fun h7 => ?_) (fun h7 => ?_)
 ·
  have h7p := dT h7
  refine W.skip (W.seq' (W.block (wR (wM (vS f) (wM (vS t) (wP (Value.agg #[(vS f), (vS t), (vB false), (vS sZ), (vB false)]) (wM v (wM (vI ↑i_) ?_))))))))
  obtain ⟨cap9, hb8⟩ := SlAt.base (M.rep 0 rfl) (by omega)
  obtain ⟨x10, hx10⟩ := elem_of_lt (xs := l) (i := i_) (by omega)
  refine wS (vQ v i_ 2) rfl (sX i_ Try.un27 Try.el108 rfl rfl hb8) (wP (vQ v i_ 2) (wS (vS x10.key) rfl (Step.loadE (k := 0) Try.sc9 (flat_ec (M.rep 0 rfl) hx10 hitE_len) (by decide) rfl rfl) ?_))
  refine WL.callX rfl (r_left (⟨f, t, false, sZ, false⟩ : Scn) x10.key (M.enterW0 trivial)) (CallsF.func Try.en56 rfl) ?_
  rintro _ w11 ⟨rfl, m⟩
  replace M := M.leaveW0 m
  clear m
  refine WL.nil ?_
  refine W.cond (t := leftB (⟨f, t, false, sZ, false⟩ : Scn) x10.key) rfl (fun h12 => ?_) (fun h12 => ?_)
  ·
   refine W.region rfl (wM (vI ↑q_) (wS (vI (↑q_ + 1)) rfl (Step.add rfl rfl (wrap_i64 (by omega))) (wA (vI (↑q_ + 1)) (WL.nil (W.region rfl (wM (vI ↑i_) (wS (vI (↑i_ + 1)) rfl (Step.add rfl rfl (wrap_i64 (by omega))) (wA (vI (↑i_ + 1)) (WL.nil ?_)))))))))
   exact ⟨_, (by omega), i_ + 1, q_ + 1, ⟨(by omega), (by rw [count_snoc hx10, if_pos (by simpa using h12), hct_]), rfl⟩, ⟨rfl, rfl, rfl, rfl, rfl, rfl, rfl, rfl⟩, M⟩
  ·
   refine W.skip (W.region rfl (wM (vI ↑i_) (wS (vI (↑i_ + 1)) rfl (Step.add rfl rfl (wrap_i64 (by omega))) (wA (vI (↑i_ + 1)) (WL.nil ?_)))))
   exact ⟨_, (by omega), i_ + 1, q_, ⟨(by omega), (by rw [count_snoc hx10, if_neg (by simpa using h12), hct_]; rfl), rfl⟩, ⟨rfl, rfl, rfl, rfl, rfl, rfl, rfl, rfl⟩, M⟩
 ·
  have h7p := dF h7
  refine W.exit (thn_exit (thn_exit ?_))
  refine inBlk_hit ?_
  refine wR (wM (vI ↑q_) (wA (vI ↑q_) (WL.nil ?_)))
  refine W.ret ?_
  refine ⟨.inl rfl, (vI ↑q_), ?_, ?_⟩
  · exact ⟨rfl, (Res.r1 (show RV _ _ _ (.tmp 6) (vI ↑q_) from by exact rfl))⟩
  refine ⟨?_, M.close [] rfl (by decide) trivial⟩
  rw [show countR l f t = q_ by rw [← hct_, List.take_of_length_le (by omega)]]
end Go.Proofs
namespace Tp
open Go
def badS (u : TAct) : Bool := decide ((u.k.size : Int) > 20) || decide (u.v > 100)
def fewS (l : List TAct) (m : Int) : Bool := (l.take 100).all (fun a => !(badS a)) && decide ((l.length : Int) ≤ m)
def doesSR (row : List THit) (a : TAct) : List THit :=
  if pickI a.do_ 7 = 0 ∨ pickI a.do_ 7 = 1 ∨ pickI a.do_ 7 = 2 ∨ pickI a.do_ 7 = 3 then row else if pickI a.do_ 7 = 6 then delL row a.k else putR row ⟨a.k, a.v⟩
def doesSS (s : Scn) (row : List THit) (a : TAct) : Scn :=
  if pickI a.do_ 7 = 0 then nextR s row else if pickI a.do_ 7 = 1 then pageS s row a.v else if pickI a.do_ 7 = 2 then (skipS s a.k).1 else s
def row4 : List THit := [⟨⟨#[97]⟩, 0⟩, ⟨⟨#[98]⟩, 1⟩, ⟨⟨#[99]⟩, 2⟩, ⟨⟨#[100]⟩, 3⟩]
theorem rowE_4 : rowE ([⟨#[97]⟩, ⟨#[98]⟩, ⟨#[99]⟩, ⟨#[100]⟩] : List ByteArray) 4 = row4 := by decide +kernel
section
variable {l : List TAct} {i : Nat} {x a : TAct} {m : Int} {row : List THit} {s : Scn}
theorem fewS_bad (hx : l[i]? = some x) (hi : i < 100) (h : badS x = true) : fewS l m = false := by
  unfold fewS
  rw [Bool.and_eq_false_iff]
  left
  rw [List.all_eq_false]
  refine ⟨x, List.mem_of_getElem? (i := i) ?_, by simp [h]⟩
  rw [List.getElem?_take, if_pos hi]; exact hx
theorem fewS_good (hb : ∀ j u, j < i → l[j]? = some u → badS u = false) (hi : l.length ≤ i ∨ 100 ≤ i) : fewS l m = decide ((l.length : Int) ≤ m) := by
  unfold fewS
  rw [show (l.take 100).all (fun a => !(badS a)) = true from List.all_eq_true.2 fun u hu => ?_, Bool.true_and]
  obtain ⟨j, hj⟩ := List.getElem?_of_mem hu
  rw [List.getElem?_take] at hj
  split at hj
  · next h => rw [hb j u (by have := (List.getElem?_eq_some_iff.1 hj).1; omega) hj]; rfl
  · cases hj
theorem fewS_fact (h : fewS l m = true) : (l.length : Int) ≤ m := by
  unfold fewS at h; simp at h; exact h.2
theorem sd_next (h : pickI a.do_ 7 = 0) : doesSR row a = row ∧ doesSS s row a = nextR s row := by unfold doesSR doesSS; exact ⟨if_pos (.inl h), if_pos h⟩
theorem sd_page (h0 : ¬ pickI a.do_ 7 = 0) (h : pickI a.do_ 7 = 1) : doesSR row a = row ∧ doesSS s row a = pageS s row a.v := by
  unfold doesSR doesSS; exact ⟨if_pos (.inr (.inl h)), by rw [if_neg h0, if_pos h]⟩
theorem sd_skip (h0 : ¬ pickI a.do_ 7 = 0) (h1 : ¬ pickI a.do_ 7 = 1) (h : pickI a.do_ 7 = 2) : doesSR row a = row ∧ doesSS s row a = (skipS s a.k).1 := by
  unfold doesSR doesSS; exact ⟨if_pos (.inr (.inr (.inl h))), by rw [if_neg h0, if_neg h1, if_pos h]⟩
theorem sd_peek (h0 : ¬ pickI a.do_ 7 = 0) (h1 : ¬ pickI a.do_ 7 = 1) (h2 : ¬ pickI a.do_ 7 = 2) (h : pickI a.do_ 7 = 3) : doesSR row a = row ∧ doesSS s row a = s := by
  unfold doesSR doesSS; exact ⟨if_pos (.inr (.inr (.inr h))), by rw [if_neg h0, if_neg h1, if_neg h2]⟩
theorem sd_del (h0 : ¬ pickI a.do_ 7 = 0) (h1 : ¬ pickI a.do_ 7 = 1) (h2 : ¬ pickI a.do_ 7 = 2) (h3 : ¬ pickI a.do_ 7 = 3) (h : pickI a.do_ 7 = 6) : doesSR row a = delL row a.k ∧ doesSS s row a = s := by
  unfold doesSR doesSS; exact ⟨by rw [if_neg (by simp [h0, h1, h2, h3]), if_pos h], by rw [if_neg h0, if_neg h1, if_neg h2]⟩
theorem sd_put (h0 : ¬ pickI a.do_ 7 = 0) (h1 : ¬ pickI a.do_ 7 = 1) (h2 : ¬ pickI a.do_ 7 = 2) (h3 : ¬ pickI a.do_ 7 = 3) (h : ¬ pickI a.do_ 7 = 6) : doesSR row a = putR row ⟨a.k, a.v⟩ ∧ doesSS s row a = s := by
  unfold doesSR doesSS; exact ⟨by rw [if_neg (by simp [h0, h1, h2, h3]), if_neg h], by rw [if_neg h0, if_neg h1, if_neg h2]⟩
end
end Tp
set_option maxRecDepth 100000
namespace Go.Proofs
open Go Tp
theorem Try.un23 : Und Try.prog 23 (.slice 31) := by unfold Und; kernel_rfl
theorem Try.el31 : Elem Try.prog 31 (Value.agg #[(vI 0), (vS sZ), (vI 0)]) 3 32 := Elem.mk (by kernel_rfl)
theorem l13_few {G : Nat → Prop} {w : World} (v : Value) (l : List TAct) (most : Int)   (M : Mem G (fun _ => False) w [] [SlAt 3 v l.length (l.flatMap actE)] w) : Rets Try.prog 11 #[v, (vI most)] w fun r w' => r = (vB (fewS l most)) ∧ Mem G (fun _ => False) w [] [] w' := by
 refine Rets.enter 35 _ Try.func11 rfl Try.ntmps11 Try.results11 (by simp) ?_
 have hle1 := SlAt.le' (M.rep 0 rfl)
 have sl2 : IsSl v := SlAt.isSl (Mem.rep M 0 rfl)
 refine wR (wA (vB false) (WL.nil (W.seq' (wR (wA (vI 0) (WL.nil (W.block ?_)))))))
 refine W.loop (fun kk ρ w' => ∃ (i_ : Nat), ((i_ ≤ l.length) ∧ (i_ ≤ 100) ∧ (∀ j u, j < i_ → l[j]? = some u → badS u = false) ∧ kk = l.length - i_) ∧ ρ.has [(0, v), (1, (vI most)), (5, (vI ↑i_))] ∧ Mem G (fun _ => False) w [] [SlAt 3 v l.length (l.flatMap actE)]  w') _ ⟨0, ⟨(Nat.zero_le _), (Nat.zero_le _), (fun _ _ h => absurd h (Nat.not_lt_zero _)), rfl⟩, ⟨rfl, rfl, rfl, rfl, rfl⟩, M⟩ ?_
 rintro _ ρ4 w3 ⟨i_, ⟨hi5, hi6, hi7, rfl⟩, hρ, M⟩
 obtain ⟨ρ4, rfl⟩ := hρ.know
 clear hρ
 refine W.seq' (wR (wM (vI ↑i_) (wM v (wS (vI ↑l.length) rfl (Step.lenSl Try.un23 rfl (M.rep 0 rfl)) (wP (vB (decide ((↑i_ : Int) < (↑l.length : Int)))) (wM (vB (decide ((↑i_ : Int) < (↑l.length : Int)))) ?_))))))
 rcases Bool.eq_false_or_eq_true (decide ((↑i_ : Int) < (↑l.length : Int))) with h8 | h8
 ·
  have h8p := dT h8
  rw [h8]
  refine wM (vI ↑i_) (wP (vB (decide ((↑i_ : Int) < (100 : Int)))) (wS (vB (decide ((↑i_ : Int) < (100 : Int)))) rfl (Step.pick (t := true) rfl rfl) (WL.nil ?_)))
  refine W.cond (t := decide ((↑i_ : Int) < (100 : Int))) rfl (fun h9 => ?_) (fun h9 => ?_)
  ·
   have h9p := dT h9
   refine W.skip (W.seq' (W.block (wR (wM v (wM (vI ↑i_) ?_)))))
   obtain ⟨cap11, hb10⟩ := SlAt.base (M.rep 0 rfl) (by omega)
   obtain ⟨x12, hx12⟩ := elem_of_lt (xs := l) (i := i_) (by omega)
   refine wS (vQ v i_ 3) rfl (sX i_ Try.un23 Try.el31 rfl rfl hb10) (wP (vR v i_ 3 1) (wS (vS x12.k) rfl (Step.loadE (k := 1) Try.sc9 (flat_ec (M.rep 0 rfl) hx12 actE_len) (by decide) rfl rfl) (wS (vI ↑x12.k.size) rfl (Step.lenStr Try.un9 rfl) (wP (vB (decide ((↑x12.k.size : Int) > (20 : Int)))) (wM (vB (decide ((↑x12.k.size : Int) > (20 : Int)))) ?_)))))
   rcases Bool.eq_false_or_eq_true (decide ((↑x12.k.size : Int) > (20 : Int))) with h13 | h13
   ·
    have h13p := dT h13
    rw [h13]
    refine WL.pass rfl (WL.pass rfl (WL.pass rfl (WL.pass rfl (WL.pass rfl (WL.pass rfl (wS (vB true) rfl (Step.pick (t := true) rfl rfl) (WL.nil ?_)))))))
    refine W.cond (t := true) rfl (fun _ => ?_) (fun h => by cases h)
    refine wR (wA (vB false) (WL.nil ?_))
    refine W.ret ?_
    refine ⟨.inl rfl, (vB false), ?_, ?_⟩
    · exact ⟨rfl, (Res.r1 (show RV _ _ _ (.tmp 4) (vB false) from by exact rfl))⟩
    refine ⟨?_, M.close [] rfl (by decide) trivial⟩
    refine congrArg Value.bool ?_
    rw [fewS_bad hx12 (by omega) (by unfold badS; simp; omega)]
   ·
    have h13p := dF h13
    rw [h13]
    refine wM v (wM (vI ↑i_) (wS (vQ v i_ 3) rfl (sX i_ Try.un23 Try.el31 rfl rfl hb10) (wP (vR v i_ 3 2) (wS (vI x12.v) rfl (Step.loadE (k := 2) Try.sc3 (flat_ec (M.rep 0 rfl) hx12 actE_len) (by decide) rfl rfl) (wP (vB (decide ((x12.v : Int) > (100 : Int)))) (wS (vB (decide ((x12.v : Int) > (100 : Int)))) rfl (Step.pick (t := false) rfl rfl) (WL.nil ?_)))))))
    refine W.cond (t := decide ((x12.v : Int) > (100 : Int))) rfl (fun h14 => ?_) (fun h14 => ?_)
    ·
     have h14p := dT h14
     refine wR (wA (vB false) (WL.nil ?_))
     refine W.ret ?_
     refine ⟨.inl rfl, (vB false), ?_, ?_⟩
     · exact ⟨rfl, (Res.r1 (show RV _ _ _ (.tmp 4) (vB false) from by exact rfl))⟩
     refine ⟨?_, M.close [] rfl (by decide) trivial⟩
     refine congrArg Value.bool ?_
     rw [fewS_bad hx12 (by omega) (by unfold badS; simp; omega)]
    ·
     have h14p := dF h14
     refine W.skip (W.region rfl (wM (vI ↑i_) (wS (vI (↑i_ + 1)) rfl (Step.add rfl rfl (wrap_i64 (by omega))) (wA (vI (↑i_ + 1)) (WL.nil ?_)))))
     exact ⟨_, (by omega), i_ + 1, ⟨(by omega), (by omega), (below_stepG hi7 hx12 (by unfold badS; simp; omega)), rfl⟩, ⟨rfl, rfl, rfl, rfl, rfl⟩, M⟩
  ·
   have h9p := dF h9
   refine W.exit (thn_exit (thn_exit ?_))
   refine inBlk_hit ?_
   refine wR (wM v (wS (vI ↑l.length) rfl (Step.lenSl Try.un23 rfl (M.rep 0 rfl)) (wM (vI most) (wP (vB (decide ((↑l.length : Int) ≤ (most : Int)))) (wA (vB (decide ((↑l.length : Int) ≤ (most : Int)))) (WL.nil ?_))))))
   refine W.ret ?_
   refine ⟨.inl rfl, (vB (decide ((↑l.length : Int) ≤ (most : Int)))), ?_, ?_⟩
   · exact ⟨rfl, (Res.r1 (show RV _ _ _ (.tmp 4) (vB (decide ((↑l.length : Int) ≤ (most : Int)))) from by exact rfl))⟩
   refine ⟨?_, M.close [] rfl (by decide) trivial⟩
   refine congrArg Value.bool ?_
   rw [fewS_good hi7 (by omega)]
 ·
  have h8p := dF h8
  rw [h8]
  refine WL.pass rfl (WL.pass rfl (wS (vB false) rfl (Step.pick (t := false) rfl rfl) (WL.nil ?_)))
  refine W.cond (t := false) rfl (fun h => by cases h) (fun _ => ?_)
  refine W.exit (thn_exit (thn_exit ?_))
  refine inBlk_hit ?_
  refine wR (wM v (wS (vI ↑l.length) rfl (Step.lenSl Try.un23 rfl (M.rep 0 rfl)) (wM (vI most) (wP (vB (decide ((↑l.length : Int) ≤ (most : Int)))) (wA (vB (decide ((↑l.length : Int) ≤ (most : Int)))) (WL.nil ?_))))))
  refine W.ret ?_
  refine ⟨.inl rfl, (vB (decide ((↑l.length : Int) ≤ (most : Int)))), ?_, ?_⟩
  · exact ⟨rfl, (Res.r1 (show RV _ _ _ (.tmp 4) (vB (decide ((↑l.length : Int) ≤ (most : Int)))) from by exact rfl))⟩
  refine ⟨?_, M.close [] rfl (by decide) trivial⟩
  refine congrArg Value.bool ?_
  rw [fewS_good hi7 (by omega)]
theorem l13_planted {G : Nat → Prop} {w : World} (kv : Value) (ks : List ByteArray)  (hk : ks.length ≤ 40) (M : Mem G (fun _ => False) w [] [fS kv ks] w) : Rets Try.prog 13 #[kv] w fun r w' => ∃ (tb' : Nat) (S' : Nat → Prop) (rv' : Value), r = (Value.tuple #[(vP tb'), rv']) ∧ Mem G (fun _ => False) w [tT S' tb' (rowE ks ks.length) ks.length] [fR rv' (rowE ks ks.length)] w' := by
 refine Rets.enter 30 _ Try.func13 rfl Try.ntmps13 Try.results13 (by simp) ?_
 have hle1 := SlAt.le' (M.rep 0 rfl)
 have sl2 : IsSl kv := SlAt.isSl (Mem.rep M 0 rfl)
 refine wR (wA vN (wA vZ (WL.nil (wR ?_))))
 refine WL.callX rfl (T_new  (M.enterW0 trivial)) (CallsF.func Try.en30 rfl) ?_
 rintro _ w5 ⟨tb3, S4, rfl, m⟩
 replace M := M.leaveW0 m
 clear m
 refine wA (vP tb3) (WL.nil (wR (wA vZ (WL.nil (W.seq' (wR (wA (vI 0) (WL.nil (W.block ?_)))))))))
 replace M := M.ownNil 108 2
 replace M := M.shareOwn 0 rfl
 replace M : Mem _ _ _ [tT S4 tb3 ([] : List THit) 0] [fR vZ ([] : List THit), fS kv ks] _ := M
 replace M := M.rechunk 0 (c' := tT S4 tb3 (rowE ks 0) 0) rfl (rfl)
 have hrf6 := Sh.reList (show rowE ks 0 = ([] : List THit) by rfl) (M.shr' 0 rfl)
 replace M := M.facts (R' := [fR vZ (rowE ks 0), fS kv ks]) (Facts.all ⟨hrf6, M.shr' 1 rfl, trivial⟩)
 refine W.loop (fun kk ρ w' => ∃ (i_ : Nat) (rv_ : Value) (S_ : Nat → Prop), ((i_ ≤ ks.length) ∧ kk = ks.length - i_) ∧ ρ.has [(0, kv), (2, vN), (3, vZ), (4, (vP tb3)), (5, rv_), (6, (vI ↑i_))] ∧ Mem G (fun _ => False) w [tT S_ tb3 (rowE ks i_) i_] [fR rv_ (rowE ks i_), fS kv ks]  w') _ ⟨0, _, _, ⟨(Nat.zero_le _), rfl⟩, ⟨rfl, rfl, rfl, rfl, rfl, rfl, rfl, rfl⟩, M⟩ ?_
 rintro _ ρ8 w7 ⟨i_, rv_, S_, ⟨hi9, rfl⟩, hρ, M⟩
 obtain ⟨ρ8, rfl⟩ := hρ.know
 clear hρ
 have sl10 : IsSl rv_ := SlAt.isSl (M.rep 0 rfl)
 obtain ⟨_, hrc_⟩ := tabC_up (M.chunk 0 rfl).inv
 refine W.seq' (wR (wM (vI ↑i_) (wM kv (wS (vI ↑ks.length) rfl (Step.lenSl Try.un22 rfl (M.rep 1 rfl)) (wP (vB (decide ((↑i_ : Int) < (↑ks.length : Int)))) (WL.nil ?_))))))
 refine W.cond (t := decide ((↑i_ : Int) < (↑ks.length : Int))) rfl (fun h11 => ?_) (fun h11 => ?_)
 ·
  have h11p := dT h11
  refine W.skip (W.seq' (W.block (wR (wM (vP tb3) (wM kv (wM (vI ↑i_) ?_))))))
  obtain ⟨cap13, hb12⟩ := SlAt.base (M.rep 1 rfl) (by omega)
  obtain ⟨x14, hx14⟩ := elem_of_lt (xs := ks) (i := i_) (by omega)
  refine wS (vQ kv i_ 1) rfl (sX i_ Try.un22 Try.el9 rfl rfl hb12) (wS (vS x14) rfl (Step.loadE (k := 0) Try.sc9 (flat_ec (M.rep 1 rfl) hx14 strE_len) (by decide) rfl rfl) (wM (vI ↑i_) ?_))
  have fq := M.frm [tT S_ tb3 (rowE ks i_) i_] [] [0] rfl
  refine WL.callX rfl (T_put tb3 S_ (rowE ks i_) i_ x14 ↑i_ (by first | assumption | omega) (M.eF fq trivial)) (CallsF.func Try.en18 rfl) ?_
  rintro _ w16 ⟨S15, rfl, m⟩
  replace M := M.lF fq m
  clear m
  refine WL.nil (W.region rfl (wM rv_ (wM kv (wM (vI ↑i_) (wS (vQ kv i_ 1) rfl (sX i_ Try.un22 Try.el9 rfl rfl hb12) (wS (vS x14) rfl (Step.loadE (k := 0) Try.sc9 (flat_ec (M.rep 1 rfl) hx14 strE_len) (by decide) rfl rfl) (wM (vI ↑i_) ?_)))))))
  refine WL.callX rfl (r_put rv_ (rowE ks i_) x14 ↑i_ (by omega) (M.enter0 ⟨(M.shr' 0 rfl), trivial⟩)) (CallsF.func Try.en39 rfl) ?_
  rintro v17 w18 ⟨_, rfl, m⟩
  replace M := M.leave0 m
  clear m
  have sl19 : IsSl v17 := SlAt.isSl (Mem.rep M 0 rfl)
  have hle20 := SlAt.le' (M.rep 0 rfl)
  refine wA v17 (WL.nil (W.region rfl (wM (vI ↑i_) (wS (vI (↑i_ + 1)) rfl (Step.add rfl rfl (wrap_i64 (by omega))) (wA (vI (↑i_ + 1)) (WL.nil ?_))))))
  replace M := M.rechunk 0 (c' := tT S15 tb3 (rowE ks (i_ + 1)) (i_ + 1)) rfl (by rw [rowE_succ hx14])
  have hrf21 := Sh.reList (show rowE ks (i_ + 1) = putR (rowE ks i_) (⟨x14, ↑i_⟩ : THit) by rw [rowE_succ hx14]) (M.shr' 0 rfl)
  replace M := M.facts (R' := [fR v17 (rowE ks (i_ + 1)), fR rv_ (rowE ks i_), fS kv ks]) (Facts.all ⟨hrf21, M.shr' 1 rfl, M.shr' 2 rfl, trivial⟩)
  replace M := M.facts (R' := [fR v17 (rowE ks (i_ + 1)), fS kv ks]) (Facts.all ⟨M.shr' 0 rfl, M.shr' 2 rfl, trivial⟩)
  exact ⟨_, (by omega), i_ + 1, v17, S15, ⟨(by omega), rfl⟩, ⟨rfl, rfl, rfl, rfl, rfl, rfl, rfl, rfl⟩, M⟩
 ·
  have h11p := dF h11
  refine W.exit (thn_exit (thn_exit ?_))
  refine inBlk_hit ?_
  refine wR (wM (vP tb3) (wM rv_ (wA (vP tb3) (wA rv_ (WL.nil ?_)))))
  refine W.ret ?_
  refine ⟨.inl rfl, (Value.tuple #[(vP tb3), rv_]), ?_, ?_⟩
  · exact ⟨rfl, (Res.r2 (show RV _ _ _ (.tmp 2) (vP tb3) from by exact rfl) (show RV _ _ _ (.tmp 3) rv_ from by exact rfl))⟩
  have e22 : rowE ks ks.length = rowE ks i_ := by
   rw [show ks.length = i_ by omega]
  have e23 : ks.length = i_ := by
   omega
  replace M := M.rechunk 0 (c' := tT S_ tb3 (rowE ks ks.length) ks.length) rfl (by rw [e22, e23])
  have e24 : rowE ks ks.length = rowE ks i_ := by
   rw [show ks.length = i_ by omega]
  have hf25 := Sh.reList e24 (M.shr' 0 rfl)
  refine ⟨tb3, S_, rv_, ?_, M.close [0] rfl (by decide) ⟨hf25, trivial⟩⟩
  rfl
theorem l13_hit1 {G : Nat → Prop} {w : World} (a : THit)   (M : Mem G (fun _ => False) w [] [] w) : Rets Try.prog 52 #[(Value.agg #[(vS a.key), (vI a.val)]), (Value.agg #[(vS a.key), (vI a.val)])] w fun r w' => r = (vB true) ∧ Mem G (fun _ => False) w [] [] w' := by
 refine Rets.enter 17 _ Try.func52 rfl Try.ntmps52 Try.results52 (by simp) ?_
 refine wR ?_
 refine WL.box (v := (Value.agg #[(vS a.key), (vI a.val)])) (c := #[(vS a.key), (vI a.val)]) M rfl rfl rfl (fun b1 w2 hb1 M => ?_)
 refine WL.box (v := (Value.agg #[(vS a.key), (vI a.val)])) (c := #[(vS a.key), (vI a.val)]) M rfl rfl rfl (fun b3 w4 hb3 M => ?_)
 refine wA (vB false) (WL.nil (wR (wP (vP b1) (wS (vS a.key) rfl (Step.load1 Try.sc9 rfl ((M.cell 1 rfl 0).trans rfl)) (wP (vP b3) (wS (vS a.key) rfl (Step.load1 Try.sc9 rfl ((M.cell 0 rfl 0).trans rfl)) (wS (vB true) rfl (Step.cast (congrArg Value.bool (show (a.key.toList == a.key.toList) = true by simp)) sP) (wM (vB true) (wP (Value.pointer (some ⟨b1, 1, none⟩)) (wS (vI a.val) rfl (Step.load1 Try.sc3 rfl ((M.cell 1 rfl 1).trans rfl)) (wP (Value.pointer (some ⟨b3, 1, none⟩)) (wS (vI a.val) rfl (Step.load1 Try.sc3 rfl ((M.cell 0 rfl 1).trans rfl)) (wS (vB true) rfl (Step.cast (congrArg Value.bool (show ((a.val : Int) == (a.val : Int)) = true by simp)) sP) (wS (vB true) rfl (Step.pick (t := true) rfl rfl) (wA (vB true) (WL.nil ?_))))))))))))))))
 refine W.ret ?_
 refine ⟨.inl rfl, (vB true), ?_, ?_⟩
 · exact ⟨rfl, (Res.r1 (show RV _ _ _ (.tmp 4) (vB true) from by exact rfl))⟩
 refine ⟨?_, M.close [] rfl (by decide) trivial⟩
 rfl
theorem l13_hit2 {G : Nat → Prop} {w : World} (a : THit) (b : THit)   (M : Mem G (fun _ => False) w [] [] w) : Rets Try.prog 52 #[(Value.agg #[(vS a.key), (vI a.val)]), (Value.agg #[(vS b.key), (vI b.val)])] w fun r w' => r = (vB (decide (a = b))) ∧ Mem G (fun _ => False) w [] [] w' := by
 refine Rets.enter 17 _ Try.func52 rfl Try.ntmps52 Try.results52 (by simp) ?_
 refine wR ?_
 refine WL.box (v := (Value.agg #[(vS a.key), (vI a.val)])) (c := #[(vS a.key), (vI a.val)]) M rfl rfl rfl (fun b1 w2 hb1 M => ?_)
 refine WL.box (v := (Value.agg #[(vS b.key), (vI b.val)])) (c := #[(vS b.key), (vI b.val)]) M rfl rfl rfl (fun b3 w4 hb3 M => ?_)
 refine wA (vB false) (WL.nil (wR (wP (vP b1) (wS (vS a.key) rfl (Step.load1 Try.sc9 rfl ((M.cell 1 rfl 0).trans rfl)) (wP (vP b3) (wS (vS b.key) rfl (Step.load1 Try.sc9 rfl ((M.cell 0 rfl 0).trans rfl)) (wP (vB (a.key.toList == b.key.toList)) (wM (vB (a.key.toList == b.key.toList)) ?_))))))))
 rcases Bool.eq_false_or_eq_true (a.key.toList == b.key.toList) with h5 | h5
 ·
  rw [h5]
  refine wP (Value.pointer (some ⟨b1, 1, none⟩)) (wS (vI a.val) rfl (Step.load1 Try.sc3 rfl ((M.cell 1 rfl 1).trans rfl)) (wP (Value.pointer (some ⟨b3, 1, none⟩)) (wS (vI b.val) rfl (Step.load1 Try.sc3 rfl ((M.cell 0 rfl 1).trans rfl)) (wP (vB ((a.val : Int) == (b.val : Int))) (wS (vB ((a.val : Int) == (b.val : Int))) rfl (Step.pick (t := true) rfl rfl) (wA (vB ((a.val : Int) == (b.val : Int))) (WL.nil ?_)))))))
  refine W.ret ?_
  refine ⟨.inl rfl, (vB ((a.val : Int) == (b.val : Int))), ?_, ?_⟩
  · exact ⟨rfl, (Res.r1 (show RV _ _ _ (.tmp 4) (vB ((a.val : Int) == (b.val : Int))) from by exact rfl))⟩
  refine ⟨?_, M.close [] rfl (by decide) trivial⟩
  refine congrArg Value.bool ?_
  try simp only [sEq_dec] at *
  cases a; cases b; simp_all <;> (try (rw [Bool.eq_iff_iff]; simp))
 ·
  rw [h5]
  refine WL.pass rfl (WL.pass rfl (WL.pass rfl (WL.pass rfl (WL.pass rfl (wS (vB false) rfl (Step.pick (t := false) rfl rfl) (wA (vB false) (WL.nil ?_)))))))
  refine W.ret ?_
  refine ⟨.inl rfl, (vB false), ?_, ?_⟩
  · exact ⟨rfl, (Res.r1 (show RV _ _ _ (.tmp 4) (vB false) from by exact rfl))⟩
  refine ⟨?_, M.close [] rfl (by decide) trivial⟩
  refine congrArg Value.bool ?_
  try simp only [sEq_dec] at *
  cases a; cases b; simp_all <;> (try (rw [Bool.eq_iff_iff]; simp))
end Go.Proofs
