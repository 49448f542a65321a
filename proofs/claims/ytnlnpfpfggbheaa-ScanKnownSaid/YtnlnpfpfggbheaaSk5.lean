/- Proved here: lemmas and walks on which the claim stands (part 5 of 7). No condition. -/
import Derived.Test.YtnlnpfpfggbheaaSk4
import Derived.Laws.BytesArg
set_option linter.all false
set_option maxRecDepth 100000
namespace Go.Proofs
open Go Tp
theorem Try.el4 : Elem Try.prog 4 (vB false) 1 1 := Elem.mk (by kernel_rfl)
set_option maxHeartbeats 1000000 in
theorem tab_put {G X : Nat → Prop} {w : World} (tb ab : Nat) (rt : Handle) (fu : Bool) (ln : Int) (l : List RPlace) (S : Nat → Prop) (k : ByteArray) (v : Int)  (hA : SmallA l) (d : Nat) (hO : insOk d (put0 l rt fu).1 (put0 l rt fu).2 (⟨k, v⟩ : THit)) (hS : SmallA (insF d (put0 l rt fu).1 (put0 l rt fu).2 (⟨k, v⟩ : THit)).1) (hln : 0 ≤ ln ∧ ln ≤ 1000000) (M : Mem G X w [bk tb #[(vP ab), (vI rt.at_), (vI rt.turn), (vB fu), (vI ln)] 94, arenaC 143 145 S ab l] [] w) : Rets Try.prog 18 #[(vP tb), (vS k), (vI v)] w fun r w' => ∃ (S' : Nat → Prop), r = (Value.tuple #[(vI ((putT d l rt fu ln (⟨k, v⟩ : THit)).2.2.1)), (vB ((putT d l rt fu ln (⟨k, v⟩ : THit)).2.2.2))]) ∧ Mem G X w [bk tb #[(vP ab), (vI (((putT d l rt fu ln (⟨k, v⟩ : THit)).1.2).at_)), (vI (((putT d l rt fu ln (⟨k, v⟩ : THit)).1.2).turn)), (vB true), (vI ((putT d l rt fu ln (⟨k, v⟩ : THit)).2.1))] 94, arenaC 143 145 S' ab ((putT d l rt fu ln (⟨k, v⟩ : THit)).1.1)] [] w' := by
 refine Rets.enter 84 _ Try.func18 rfl Try.ntmps18 Try.results18 (by simp) ?_
 refine wR (wA (vI 0) (wA (vB false) (WL.nil (W.seq' (wR (wM (vP tb) (wP (vB false) (WL.nil ?_))))))))
 refine W.cond (t := false) rfl (fun h => by cases h) (fun _ => ?_)
 refine W.skip (W.seq' (wR (wM (vP tb) (wP (vP tb) (wP (Value.pointer (some ⟨tb, 3, none⟩)) (wS (vB fu) rfl (Step.load1 Try.sc4 rfl ((M.cell 0 rfl 3).trans rfl)) (wP (vB !fu) (WL.nil ?_))))))))
 refine W.cond (t := !fu) rfl (fun h1 => ?_) (fun h1 => ?_)
 ·
  refine W.region rfl (wM (vP tb) (wM (vP tb) (wM (vP tb) (wP (vP tb) (wP (vP tb) (wS (vP ab) rfl (Step.load1 Try.sc90 rfl ((M.cell 0 rfl 0).trans rfl)) (wP (Value.agg #[(vB true), vZ, vZ, vZ]) ?_)))))))
  have fq := M.frm [arenaC 143 145 S ab l] [bk tb #[(vP ab), (vI rt.at_), (vI rt.turn), (vB fu), (vI ln)] 94] [1, 0] rfl
  refine WL.callX rfl (ar_make ab l S vZ vZ vZ (⟨true, ([] : List ByteArray), ([] : List Handle), ([] : List Int)⟩ : Nd) (by assumption) (by simp [insL] <;> omega) (by simp [insL] <;> omega) (by simp [insL] <;> omega) (M.eF fq ⟨(Sh.pure fun w => SlAt.nil 1 w), (Sh.pure fun w => SlAt.nil 2 w), (Sh.pure fun w => SlAt.nil 1 w), trivial⟩)) (CallsF.func Try.en46 rfl) ?_
  rintro _ w3 ⟨S2, rfl, m⟩
  replace M := M.lF fq m
  clear m
  refine wP (vP tb) (wP (Value.pointer (some ⟨tb, 1, none⟩)) ?_)
  refine WL.store (v := (Value.agg #[(vI (((rmake l (⟨true, ([] : List ByteArray), ([] : List Handle), ([] : List Int)⟩ : Nd)).2).at_)), (vI (((rmake l (⟨true, ([] : List ByteArray), ([] : List Handle), ([] : List Int)⟩ : Nd)).2).turn))])) (cs := [(vI (((rmake l (⟨true, ([] : List ByteArray), ([] : List Handle), ([] : List Int)⟩ : Nd)).2).at_)), (vI (((rmake l (⟨true, ([] : List ByteArray), ([] : List Handle), ([] : List Int)⟩ : Nd)).2).turn))]) (c' := #[(vP ab), (vI (((rmake l (⟨true, ([] : List ByteArray), ([] : List Handle), ([] : List Int)⟩ : Nd)).2).at_)), (vI (((rmake l (⟨true, ([] : List ByteArray), ([] : List Handle), ([] : List Int)⟩ : Nd)).2).turn)), (vB fu), (vI ln)]) M 1 rfl rfl Try.el92.sized rfl rfl rfl rfl (nL rfl) (cC rfl (cC rfl cel_nil)) rfl rfl (fun w4 M => ?_)
  refine wP (vP tb) (wP (Value.pointer (some ⟨tb, 3, none⟩)) ?_)
  refine WL.store (v := (vB true)) (cs := [(vB true)]) (c' := #[(vP ab), (vI (((rmake l (⟨true, ([] : List ByteArray), ([] : List Handle), ([] : List Int)⟩ : Nd)).2).at_)), (vI (((rmake l (⟨true, ([] : List ByteArray), ([] : List Handle), ([] : List Int)⟩ : Nd)).2).turn)), (vB true), (vI ln)]) M 1 rfl rfl Try.el4.sized rfl rfl rfl rfl (nL rfl) (cC rfl cel_nil) rfl rfl (fun w5 M => ?_)
  refine WL.nil (W.seq' ?_)
  replace M := M.rechunk 1 (c' := bk tb #[(vP ab), (vI ((put0 l rt fu).2.at_)), (vI ((put0 l rt fu).2.turn)), (vB true), (vI ln)] 94) rfl (by simp [put0, (by simpa using h1)])
  replace M := M.rechunk 0 (c' := arenaC 143 145 S2 ab ((put0 l rt fu).1)) rfl (by simp [put0, (by simpa using h1)])
  have hA0_ : SmallA (put0 l rt fu).1 := (insOk_node hO rfl).small
  refine W.region rfl (wM (vP tb) (wM (vP tb) (wP (vP tb) (wP (Value.pointer (some ⟨tb, 1, none⟩)) (wS (Value.agg #[(vI ((put0 l rt fu).2.at_)), (vI ((put0 l rt fu).2.turn))]) rfl (Step.loadN Try.ag92 rfl (M.blk 1 rfl) (nL rfl) rfl) (wM (vS k) (wM (vI v) (wP (Value.agg #[(vS k), (vI v)]) ?_))))))))
  have fq := M.frm [arenaC 143 145 S2 ab ((put0 l rt fu).1)] [bk tb #[(vP ab), (vI ((put0 l rt fu).2.at_)), (vI ((put0 l rt fu).2.turn)), (vB true), (vI ln)] 94] [0, 1] rfl
  refine WL.callX rfl (tr_insert d tb ab ((put0 l rt fu).2) true ln ((put0 l rt fu).1) S2 ((put0 l rt fu).2) (⟨k, v⟩ : THit) (by assumption) (M.eF fq ⟨(M.cF fq 0 rfl), trivial⟩)) (CallsF.func Try.en47 rfl) ?_
  rintro _ w8 ⟨u6, S7, rfl, m⟩
  replace M := M.lF fq m
  clear m
  refine wM (Value.tuple #[(vI ((insF d ((put0 l rt fu).1) ((put0 l rt fu).2) (⟨k, v⟩ : THit)).2.1.1)), (vB ((insF d ((put0 l rt fu).1) ((put0 l rt fu).2) (⟨k, v⟩ : THit)).2.1.2)), u6]) (wP (vI ((insF d ((put0 l rt fu).1) ((put0 l rt fu).2) (⟨k, v⟩ : THit)).2.1.1)) (wP (vB ((insF d ((put0 l rt fu).1) ((put0 l rt fu).2) (⟨k, v⟩ : THit)).2.1.2)) (wP u6 (wA (vI ((insF d ((put0 l rt fu).1) ((put0 l rt fu).2) (⟨k, v⟩ : THit)).2.1.1)) (wA (vB ((insF d ((put0 l rt fu).1) ((put0 l rt fu).2) (⟨k, v⟩ : THit)).2.1.2)) (wA u6 (WL.nil (W.seq' (W.seq' ?_)))))))))
  rcases ho_ : (insF d ((put0 l rt fu).1) ((put0 l rt fu).2) (⟨k, v⟩ : THit)).2.2 with _ | u_
  ·
   rw [ho_] at M
   obtain rfl := M.upNone 1 rfl
   replace M := M.sel (L' := [arenaC 143 145 S7 ab ((insF d ((put0 l rt fu).1) ((put0 l rt fu).2) (⟨k, v⟩ : THit)).1), bk tb #[(vP ab), (vI ((put0 l rt fu).2.at_)), (vI ((put0 l rt fu).2.turn)), (vB true), (vI ln)] 94]) [0, 2] rfl (by decide)
   refine W.region rfl (wM vN (wP (vB false) (WL.nil ?_)))
   refine W.cond (t := false) rfl (fun h => by cases h) (fun _ => ?_)
   refine W.skip (W.seq' (wR (wM (vB ((insF d ((put0 l rt fu).1) ((put0 l rt fu).2) (⟨k, v⟩ : THit)).2.1.2)) (wP (vB (!((insF d ((put0 l rt fu).1) ((put0 l rt fu).2) (⟨k, v⟩ : THit)).2.1.2))) (WL.nil ?_)))))
   refine W.cond (t := !((insF d ((put0 l rt fu).1) ((put0 l rt fu).2) (⟨k, v⟩ : THit)).2.1.2)) rfl (fun h10 => ?_) (fun h10 => ?_)
   ·
    refine W.region rfl (wM (vP tb) (wP (vP tb) (wP (Value.pointer (some ⟨tb, 4, none⟩)) (wS (vI ln) rfl (Step.load1 Try.sc3 rfl ((M.cell 1 rfl 4).trans rfl)) (wS (vI (ln + 1)) rfl (Step.add rfl rfl (wrap_i64 (by omega))) (wP (vP tb) (wP (Value.pointer (some ⟨tb, 4, none⟩)) ?_)))))))
    refine WL.store (v := (vI (ln + 1))) (cs := [(vI (ln + 1))]) (c' := #[(vP ab), (vI ((put0 l rt fu).2.at_)), (vI ((put0 l rt fu).2.turn)), (vB true), (vI (ln + 1))]) M 1 rfl rfl Try.el3.sized rfl rfl rfl rfl (nL rfl) (cC rfl cel_nil) rfl rfl (fun w11 M => ?_)
    refine WL.nil (wR (wM (vI ((insF d ((put0 l rt fu).1) ((put0 l rt fu).2) (⟨k, v⟩ : THit)).2.1.1)) (wS (vB false) rfl (Step.cast (congrArg Value.bool (show ((insF d ((put0 l rt fu).1) ((put0 l rt fu).2) (⟨k, v⟩ : THit)).2.1.2) = false by simpa using h10)) (Step.move rfl)) (wA (vI ((insF d ((put0 l rt fu).1) ((put0 l rt fu).2) (⟨k, v⟩ : THit)).2.1.1)) (wA (vB false) (WL.nil ?_))))))
    refine W.ret ?_
    refine ⟨.inl rfl, (Value.tuple #[(vI ((insF d ((put0 l rt fu).1) ((put0 l rt fu).2) (⟨k, v⟩ : THit)).2.1.1)), (vB false)]), ?_, ?_⟩
    · exact ⟨rfl, (Res.r2 (show RV _ _ _ (.tmp 6) (vI ((insF d ((put0 l rt fu).1) ((put0 l rt fu).2) (⟨k, v⟩ : THit)).2.1.1)) from by exact rfl) (show RV _ _ _ (.tmp 7) (vB false) from by exact rfl))⟩
    have e12 : (bk tb #[(vP ab), (vI (((putT d l rt fu ln (⟨k, v⟩ : THit)).1.2).at_)), (vI (((putT d l rt fu ln (⟨k, v⟩ : THit)).1.2).turn)), (vB true), (vI ((putT d l rt fu ln (⟨k, v⟩ : THit)).2.1))] 94 : Chunk) = (bk tb #[(vP ab), (vI ((put0 l rt fu).2.at_)), (vI ((put0 l rt fu).2.turn)), (vB true), (vI (ln + 1))] 94 : Chunk) := by
     have hth_ : (insF d (put0 l rt fu).1 (put0 l rt fu).2 (⟨k, v⟩ : THit)).2.1.2 = false := by simpa using h10
     unfold putT putU; simp only [ho_]
     try simp [hth_]
    replace M := M.rechunk 1 (c' := bk tb #[(vP ab), (vI (((putT d l rt fu ln (⟨k, v⟩ : THit)).1.2).at_)), (vI (((putT d l rt fu ln (⟨k, v⟩ : THit)).1.2).turn)), (vB true), (vI ((putT d l rt fu ln (⟨k, v⟩ : THit)).2.1))] 94) rfl e12.symm
    have e13 : (putT d l rt fu ln (⟨k, v⟩ : THit)).1.1 = (insF d ((put0 l rt fu).1) ((put0 l rt fu).2) (⟨k, v⟩ : THit)).1 := by
     have hth_ : (insF d (put0 l rt fu).1 (put0 l rt fu).2 (⟨k, v⟩ : THit)).2.1.2 = false := by simpa using h10
     unfold putT putU; simp only [ho_]
     try simp [hth_]
    replace M := M.rechunk 0 (c' := arenaC 143 145 S7 ab ((putT d l rt fu ln (⟨k, v⟩ : THit)).1.1)) rfl (congrArg (fun z => arenaC 143 145 S7 ab z) e13.symm)
    refine ⟨S7, ?_, M.close [1, 0] rfl (by decide) trivial⟩
    have hth_ : (insF d (put0 l rt fu).1 (put0 l rt fu).2 (⟨k, v⟩ : THit)).2.1.2 = false := by simpa using h10
    unfold putT putU; simp only [ho_]
    try simp [hth_]
   ·
    refine W.skip (wR (wM (vI ((insF d ((put0 l rt fu).1) ((put0 l rt fu).2) (⟨k, v⟩ : THit)).2.1.1)) (wS (vB true) rfl (Step.cast (congrArg Value.bool (show ((insF d ((put0 l rt fu).1) ((put0 l rt fu).2) (⟨k, v⟩ : THit)).2.1.2) = true by simpa using h10)) (Step.move rfl)) (wA (vI ((insF d ((put0 l rt fu).1) ((put0 l rt fu).2) (⟨k, v⟩ : THit)).2.1.1)) (wA (vB true) (WL.nil ?_))))))
    refine W.ret ?_
    refine ⟨.inl rfl, (Value.tuple #[(vI ((insF d ((put0 l rt fu).1) ((put0 l rt fu).2) (⟨k, v⟩ : THit)).2.1.1)), (vB true)]), ?_, ?_⟩
    · exact ⟨rfl, (Res.r2 (show RV _ _ _ (.tmp 6) (vI ((insF d ((put0 l rt fu).1) ((put0 l rt fu).2) (⟨k, v⟩ : THit)).2.1.1)) from by exact rfl) (show RV _ _ _ (.tmp 7) (vB true) from by exact rfl))⟩
    have e14 : (bk tb #[(vP ab), (vI (((putT d l rt fu ln (⟨k, v⟩ : THit)).1.2).at_)), (vI (((putT d l rt fu ln (⟨k, v⟩ : THit)).1.2).turn)), (vB true), (vI ((putT d l rt fu ln (⟨k, v⟩ : THit)).2.1))] 94 : Chunk) = (bk tb #[(vP ab), (vI ((put0 l rt fu).2.at_)), (vI ((put0 l rt fu).2.turn)), (vB true), (vI ln)] 94 : Chunk) := by
     have hth_ : (insF d (put0 l rt fu).1 (put0 l rt fu).2 (⟨k, v⟩ : THit)).2.1.2 = true := by simpa using h10
     unfold putT putU; simp only [ho_]
     try simp [hth_]
    replace M := M.rechunk 1 (c' := bk tb #[(vP ab), (vI (((putT d l rt fu ln (⟨k, v⟩ : THit)).1.2).at_)), (vI (((putT d l rt fu ln (⟨k, v⟩ : THit)).1.2).turn)), (vB true), (vI ((putT d l rt fu ln (⟨k, v⟩ : THit)).2.1))] 94) rfl e14.symm
    have e15 : (putT d l rt fu ln (⟨k, v⟩ : THit)).1.1 = (insF d ((put0 l rt fu).1) ((put0 l rt fu).2) (⟨k, v⟩ : THit)).1 := by
     have hth_ : (insF d (put0 l rt fu).1 (put0 l rt fu).2 (⟨k, v⟩ : THit)).2.1.2 = true := by simpa using h10
     unfold putT putU; simp only [ho_]
     try simp [hth_]
    replace M := M.rechunk 0 (c' := arenaC 143 145 S7 ab ((putT d l rt fu ln (⟨k, v⟩ : THit)).1.1)) rfl (congrArg (fun z => arenaC 143 145 S7 ab z) e15.symm)
    refine ⟨S7, ?_, M.close [1, 0] rfl (by decide) trivial⟩
    have hth_ : (insF d (put0 l rt fu).1 (put0 l rt fu).2 (⟨k, v⟩ : THit)).2.1.2 = true := by simpa using h10
    unfold putT putU; simp only [ho_]
    try simp [hth_]
  ·
   rw [ho_] at M
   obtain ⟨b9, rfl, M⟩ := M.upSome 1 rfl
   refine W.region rfl (wM (vP b9) (wP (vB true) (WL.nil ?_)))
   refine W.cond (t := true) rfl (fun _ => ?_) (fun h => by cases h)
   refine W.drawn2 M [0, 1, 2, 3, 4, 5, 6, 7, 8, 9, 11, 12, 13, 14, 15, 17, 18, 19, 20, 21, 22, 23, 24, 10, 16, 25, 26, 27] [28, 29, 30] [27, 30] [10, 16, 25] _ _ (sN (sY (sY sE))) (fun _ h => h) Try.mixed (by kernel_rfl) ?_
   refine tM (vP tb) rfl (tM (vP tb) rfl (tQ (vP tb) rfl (tQ (vP tb) rfl (tR (vP ab) rfl (fun A w M => (Step.load1 Try.sc90 rfl ((M.cell 2 rfl 0).trans rfl))) (tM (vP b9) rfl (tQ (vP b9) rfl (tQ (vP b9) rfl (tQ (vP b9) rfl (tR (vS u_.1.key) rfl (fun A w M => (Step.load1 Try.sc9 rfl ((M.cell 1 rfl 0).trans rfl))) (tM (vP b9) rfl (tQ (vP b9) rfl (tQ (vP b9) rfl (tQ (Value.pointer (some ⟨b9, 1, none⟩)) rfl (tR (vI u_.1.val) rfl (fun A w M => (Step.load1 Try.sc3 rfl ((M.cell 1 rfl 1).trans rfl))) (tM (vP tb) rfl (tQ (vP tb) rfl (tQ (Value.pointer (some ⟨tb, 1, none⟩)) rfl (tR (Value.agg #[(vI ((put0 l rt fu).2.at_)), (vI ((put0 l rt fu).2.turn))]) rfl (fun A w M => (Step.loadN Try.ag92 rfl (M.blk 2 rfl) (nL rfl) rfl)) (tM (vP b9) rfl (tQ (vP b9) rfl (tQ (Value.pointer (some ⟨b9, 2, none⟩)) rfl (tR (Value.agg #[(vI u_.2.at_), (vI u_.2.turn)]) rfl (fun A w M => (Step.loadN Try.ag92 rfl (M.blk 1 rfl) (nL rfl) rfl)) ?_))))))))))))))))))))))
   refine TW.new (obj := .cells #[(vS u_.1.key)] 9) (fun b => .slice (some ⟨b, 0, none⟩) 1 1) rfl (by decide) (by decide) rfl (fun w => Step.make (by kernel_rfl)) (fun b46 => ?_)
   refine TW.new (obj := .cells #[(vI u_.1.val)] 3) (fun b => .slice (some ⟨b, 0, none⟩) 1 1) rfl (by decide) (by decide) rfl (fun w => Step.make (by kernel_rfl)) (fun b47 => ?_)
   refine TW.new (obj := .cells #[(vI ((put0 l rt fu).2.at_)), (vI ((put0 l rt fu).2.turn)), (vI u_.2.at_), (vI u_.2.turn)] 92) (fun b => .slice (some ⟨b, 0, none⟩) 2 2) rfl (by decide) (by decide) rfl (fun w => Step.make (by kernel_rfl)) (fun b48 => ?_)
   refine tQ (Value.agg #[(vB false), (Value.slice (some ⟨b46, 0, none⟩) 1 1), (Value.slice (some ⟨b48, 0, none⟩) 2 2), (Value.slice (some ⟨b47, 0, none⟩) 1 1)]) rfl ?_
   let Q : List Chunk := [bk b48 #[(vI ((put0 l rt fu).2.at_)), (vI ((put0 l rt fu).2.turn)), (vI u_.2.at_), (vI u_.2.turn)] 92, bk b47 #[(vI u_.1.val)] 3, bk b46 #[(vS u_.1.key)] 9, bk b9 #[(vS u_.1.key), (vI u_.1.val), (vI u_.2.at_), (vI u_.2.turn)] 104, bk tb #[(vP ab), (vI ((put0 l rt fu).2.at_)), (vI ((put0 l rt fu).2.turn)), (vB true), (vI ln)] 94]
   refine TW.callX (ι := (Nat → Prop)) (fun jx v_ => v_ = (Value.agg #[(vI (((rmake ((insF d ((put0 l rt fu).1) ((put0 l rt fu).2) (⟨k, v⟩ : THit)).1) (⟨false, ([u_.1.key] : List ByteArray), ([(put0 l rt fu).2, u_.2] : List Handle), ([u_.1.val] : List Int)⟩ : Nd)).2).at_)), (vI (((rmake ((insF d ((put0 l rt fu).1) ((put0 l rt fu).2) (⟨k, v⟩ : THit)).1) (⟨false, ([u_.1.key] : List ByteArray), ([(put0 l rt fu).2, u_.2] : List Handle), ([u_.1.val] : List Int)⟩ : Nd)).2).turn))])) (fun jx => arenaC 143 145 jx ab ((rmake ((insF d ((put0 l rt fu).1) ((put0 l rt fu).2) (⟨k, v⟩ : THit)).1) (⟨false, ([u_.1.key] : List ByteArray), ([(put0 l rt fu).2, u_.2] : List Handle), ([u_.1.val] : List Int)⟩ : Nd)).1) :: Q) (fun jx => []) rfl (by decide) rfl (fun jx => (sN (sN (sN (sN (sY (sY sE))))))) (fun jx r h => h) (fun A w M => have fq := M.frm [arenaC 143 145 S7 ab ((insF d ((put0 l rt fu).1) ((put0 l rt fu).2) (⟨k, v⟩ : THit)).1)] (fl A :: Q) [4, 0, 1, 2, 3, 5, 6] rfl; Rets.mono (ar_make ab ((insF d ((put0 l rt fu).1) ((put0 l rt fu).2) (⟨k, v⟩ : THit)).1) S7 (Value.slice (some ⟨b46, 0, none⟩) 1 1) (Value.slice (some ⟨b48, 0, none⟩) 2 2) (Value.slice (some ⟨b47, 0, none⟩) 1 1) (⟨false, ([u_.1.key] : List ByteArray), ([(put0 l rt fu).2, u_.2] : List Handle), ([u_.1.val] : List Int)⟩ : Nd) (by first | assumption | exact smallA_of rfl) (by simp [insL] <;> omega) (by simp [insL] <;> omega) (by simp [insL] <;> omega) (M.eF fq ⟨((M.cF fq 3 rfl).imp fun _ h => SlAt.of_blk (n := 1) (size := 1) h rfl (by decide)), ((M.cF fq 1 rfl).imp fun _ h => SlAt.of_blk (n := 2) (size := 2) h rfl (by decide)), ((M.cF fq 2 rfl).imp fun _ h => SlAt.of_blk (n := 1) (size := 1) h rfl (by decide)), trivial⟩)) (fun v_ w_ ⟨S49, e_, m⟩ => ⟨S49, e_, (M.lF fq m).sel [1, 0, 2, 3, 4, 5, 6] rfl (by decide), fun b hb => M.kF fq m b hb⟩)) (fun w => CallsF.func Try.en46 rfl) (fun S49 v hp hin => ?_)
   replace hp := hp.symm; subst hp
   obtain ⟨_, _, hin⟩ := hin
   clear hin
   refine TW.turn _ _ (sY (sY (sY (sY (sY (sN sE)))))) (fun _ h => h) ?_
   refine tQ (vP tb) rfl (tQ (Value.pointer (some ⟨tb, 1, none⟩)) rfl ?_)
   refine TW.store (v := (Value.agg #[(vI (((rmake ((insF d ((put0 l rt fu).1) ((put0 l rt fu).2) (⟨k, v⟩ : THit)).1) (⟨false, ([u_.1.key] : List ByteArray), ([(put0 l rt fu).2, u_.2] : List Handle), ([u_.1.val] : List Int)⟩ : Nd)).2).at_)), (vI (((rmake ((insF d ((put0 l rt fu).1) ((put0 l rt fu).2) (⟨k, v⟩ : THit)).1) (⟨false, ([u_.1.key] : List ByteArray), ([(put0 l rt fu).2, u_.2] : List Handle), ([u_.1.val] : List Int)⟩ : Nd)).2).turn))])) (cs := [(vI (((rmake ((insF d ((put0 l rt fu).1) ((put0 l rt fu).2) (⟨k, v⟩ : THit)).1) (⟨false, ([u_.1.key] : List ByteArray), ([(put0 l rt fu).2, u_.2] : List Handle), ([u_.1.val] : List Int)⟩ : Nd)).2).at_)), (vI (((rmake ((insF d ((put0 l rt fu).1) ((put0 l rt fu).2) (⟨k, v⟩ : THit)).1) (⟨false, ([u_.1.key] : List ByteArray), ([(put0 l rt fu).2, u_.2] : List Handle), ([u_.1.val] : List Int)⟩ : Nd)).2).turn))]) (c' := #[(vP ab), (vI (((rmake ((insF d ((put0 l rt fu).1) ((put0 l rt fu).2) (⟨k, v⟩ : THit)).1) (⟨false, ([u_.1.key] : List ByteArray), ([(put0 l rt fu).2, u_.2] : List Handle), ([u_.1.val] : List Int)⟩ : Nd)).2).at_)), (vI (((rmake ((insF d ((put0 l rt fu).1) ((put0 l rt fu).2) (⟨k, v⟩ : THit)).1) (⟨false, ([u_.1.key] : List ByteArray), ([(put0 l rt fu).2, u_.2] : List Handle), ([u_.1.val] : List Int)⟩ : Nd)).2).turn)), (vB true), (vI ln)]) 5 rfl rfl (by decide) rfl Try.el92.sized rfl rfl rfl rfl (nL rfl) (cC rfl (cC rfl cel_nil)) rfl rfl (sY (sY (sY (sY (sY (sN sE)))))) (fun r h => h) ?_
   refine TW.done (fun w51 M => ?_)
   refine W.seq' (wR (wM (vB ((insF d ((put0 l rt fu).1) ((put0 l rt fu).2) (⟨k, v⟩ : THit)).2.1.2)) (wP (vB (!((insF d ((put0 l rt fu).1) ((put0 l rt fu).2) (⟨k, v⟩ : THit)).2.1.2))) (WL.nil ?_))))
   refine W.cond (t := !((insF d ((put0 l rt fu).1) ((put0 l rt fu).2) (⟨k, v⟩ : THit)).2.1.2)) rfl (fun h52 => ?_) (fun h52 => ?_)
   ·
    refine W.region rfl (wM (vP tb) (wP (vP tb) (wP (Value.pointer (some ⟨tb, 4, none⟩)) (wS (vI ln) rfl (Step.load1 Try.sc3 rfl ((M.cell 5 rfl 4).trans rfl)) (wS (vI (ln + 1)) rfl (Step.add rfl rfl (wrap_i64 (by omega))) (wP (vP tb) (wP (Value.pointer (some ⟨tb, 4, none⟩)) ?_)))))))
    refine WL.store (v := (vI (ln + 1))) (cs := [(vI (ln + 1))]) (c' := #[(vP ab), (vI (((rmake ((insF d ((put0 l rt fu).1) ((put0 l rt fu).2) (⟨k, v⟩ : THit)).1) (⟨false, ([u_.1.key] : List ByteArray), ([(put0 l rt fu).2, u_.2] : List Handle), ([u_.1.val] : List Int)⟩ : Nd)).2).at_)), (vI (((rmake ((insF d ((put0 l rt fu).1) ((put0 l rt fu).2) (⟨k, v⟩ : THit)).1) (⟨false, ([u_.1.key] : List ByteArray), ([(put0 l rt fu).2, u_.2] : List Handle), ([u_.1.val] : List Int)⟩ : Nd)).2).turn)), (vB true), (vI (ln + 1))]) M 5 rfl rfl Try.el3.sized rfl rfl rfl rfl (nL rfl) (cC rfl cel_nil) rfl rfl (fun w53 M => ?_)
    refine WL.nil (wR (wM (vI ((insF d ((put0 l rt fu).1) ((put0 l rt fu).2) (⟨k, v⟩ : THit)).2.1.1)) (wS (vB false) rfl (Step.cast (congrArg Value.bool (show ((insF d ((put0 l rt fu).1) ((put0 l rt fu).2) (⟨k, v⟩ : THit)).2.1.2) = false by simpa using h52)) (Step.move rfl)) (wA (vI ((insF d ((put0 l rt fu).1) ((put0 l rt fu).2) (⟨k, v⟩ : THit)).2.1.1)) (wA (vB false) (WL.nil ?_))))))
    refine W.ret ?_
    refine ⟨.inl rfl, (Value.tuple #[(vI ((insF d ((put0 l rt fu).1) ((put0 l rt fu).2) (⟨k, v⟩ : THit)).2.1.1)), (vB false)]), ?_, ?_⟩
    · exact ⟨rfl, (Res.r2 (show RV _ _ _ (.tmp 6) (vI ((insF d ((put0 l rt fu).1) ((put0 l rt fu).2) (⟨k, v⟩ : THit)).2.1.1)) from by exact rfl) (show RV _ _ _ (.tmp 7) (vB false) from by exact rfl))⟩
    have e54 : (bk tb #[(vP ab), (vI (((putT d l rt fu ln (⟨k, v⟩ : THit)).1.2).at_)), (vI (((putT d l rt fu ln (⟨k, v⟩ : THit)).1.2).turn)), (vB true), (vI ((putT d l rt fu ln (⟨k, v⟩ : THit)).2.1))] 94 : Chunk) = (bk tb #[(vP ab), (vI (((rmake ((insF d ((put0 l rt fu).1) ((put0 l rt fu).2) (⟨k, v⟩ : THit)).1) (⟨false, ([u_.1.key] : List ByteArray), ([(put0 l rt fu).2, u_.2] : List Handle), ([u_.1.val] : List Int)⟩ : Nd)).2).at_)), (vI (((rmake ((insF d ((put0 l rt fu).1) ((put0 l rt fu).2) (⟨k, v⟩ : THit)).1) (⟨false, ([u_.1.key] : List ByteArray), ([(put0 l rt fu).2, u_.2] : List Handle), ([u_.1.val] : List Int)⟩ : Nd)).2).turn)), (vB true), (vI (ln + 1))] 94 : Chunk) := by
     have hth_ : (insF d (put0 l rt fu).1 (put0 l rt fu).2 (⟨k, v⟩ : THit)).2.1.2 = false := by simpa using h52
     unfold putT putU; simp only [ho_]
     try simp [hth_]
    replace M := M.rechunk 5 (c' := bk tb #[(vP ab), (vI (((putT d l rt fu ln (⟨k, v⟩ : THit)).1.2).at_)), (vI (((putT d l rt fu ln (⟨k, v⟩ : THit)).1.2).turn)), (vB true), (vI ((putT d l rt fu ln (⟨k, v⟩ : THit)).2.1))] 94) rfl e54.symm
    have e55 : (putT d l rt fu ln (⟨k, v⟩ : THit)).1.1 = (rmake ((insF d ((put0 l rt fu).1) ((put0 l rt fu).2) (⟨k, v⟩ : THit)).1) (⟨false, ([u_.1.key] : List ByteArray), ([(put0 l rt fu).2, u_.2] : List Handle), ([u_.1.val] : List Int)⟩ : Nd)).1 := by
     have hth_ : (insF d (put0 l rt fu).1 (put0 l rt fu).2 (⟨k, v⟩ : THit)).2.1.2 = false := by simpa using h52
     unfold putT putU; simp only [ho_]
     try simp [hth_]
    replace M := M.rechunk 0 (c' := arenaC 143 145 S49 ab ((putT d l rt fu ln (⟨k, v⟩ : THit)).1.1)) rfl (congrArg (fun z => arenaC 143 145 S49 ab z) e55.symm)
    refine ⟨S49, ?_, M.close [5, 0] rfl (by decide) trivial⟩
    have hth_ : (insF d (put0 l rt fu).1 (put0 l rt fu).2 (⟨k, v⟩ : THit)).2.1.2 = false := by simpa using h52
    unfold putT putU; simp only [ho_]
    try simp [hth_]
   ·
    refine W.skip (wR (wM (vI ((insF d ((put0 l rt fu).1) ((put0 l rt fu).2) (⟨k, v⟩ : THit)).2.1.1)) (wS (vB true) rfl (Step.cast (congrArg Value.bool (show ((insF d ((put0 l rt fu).1) ((put0 l rt fu).2) (⟨k, v⟩ : THit)).2.1.2) = true by simpa using h52)) (Step.move rfl)) (wA (vI ((insF d ((put0 l rt fu).1) ((put0 l rt fu).2) (⟨k, v⟩ : THit)).2.1.1)) (wA (vB true) (WL.nil ?_))))))
    refine W.ret ?_
    refine ⟨.inl rfl, (Value.tuple #[(vI ((insF d ((put0 l rt fu).1) ((put0 l rt fu).2) (⟨k, v⟩ : THit)).2.1.1)), (vB true)]), ?_, ?_⟩
    · exact ⟨rfl, (Res.r2 (show RV _ _ _ (.tmp 6) (vI ((insF d ((put0 l rt fu).1) ((put0 l rt fu).2) (⟨k, v⟩ : THit)).2.1.1)) from by exact rfl) (show RV _ _ _ (.tmp 7) (vB true) from by exact rfl))⟩
    have e56 : (bk tb #[(vP ab), (vI (((putT d l rt fu ln (⟨k, v⟩ : THit)).1.2).at_)), (vI (((putT d l rt fu ln (⟨k, v⟩ : THit)).1.2).turn)), (vB true), (vI ((putT d l rt fu ln (⟨k, v⟩ : THit)).2.1))] 94 : Chunk) = (bk tb #[(vP ab), (vI (((rmake ((insF d ((put0 l rt fu).1) ((put0 l rt fu).2) (⟨k, v⟩ : THit)).1) (⟨false, ([u_.1.key] : List ByteArray), ([(put0 l rt fu).2, u_.2] : List Handle), ([u_.1.val] : List Int)⟩ : Nd)).2).at_)), (vI (((rmake ((insF d ((put0 l rt fu).1) ((put0 l rt fu).2) (⟨k, v⟩ : THit)).1) (⟨false, ([u_.1.key] : List ByteArray), ([(put0 l rt fu).2, u_.2] : List Handle), ([u_.1.val] : List Int)⟩ : Nd)).2).turn)), (vB true), (vI ln)] 94 : Chunk) := by
     have hth_ : (insF d (put0 l rt fu).1 (put0 l rt fu).2 (⟨k, v⟩ : THit)).2.1.2 = true := by simpa using h52
     unfold putT putU; simp only [ho_]
     try simp [hth_]
    replace M := M.rechunk 5 (c' := bk tb #[(vP ab), (vI (((putT d l rt fu ln (⟨k, v⟩ : THit)).1.2).at_)), (vI (((putT d l rt fu ln (⟨k, v⟩ : THit)).1.2).turn)), (vB true), (vI ((putT d l rt fu ln (⟨k, v⟩ : THit)).2.1))] 94) rfl e56.symm
    have e57 : (putT d l rt fu ln (⟨k, v⟩ : THit)).1.1 = (rmake ((insF d ((put0 l rt fu).1) ((put0 l rt fu).2) (⟨k, v⟩ : THit)).1) (⟨false, ([u_.1.key] : List ByteArray), ([(put0 l rt fu).2, u_.2] : List Handle), ([u_.1.val] : List Int)⟩ : Nd)).1 := by
     have hth_ : (insF d (put0 l rt fu).1 (put0 l rt fu).2 (⟨k, v⟩ : THit)).2.1.2 = true := by simpa using h52
     unfold putT putU; simp only [ho_]
     try simp [hth_]
    replace M := M.rechunk 0 (c' := arenaC 143 145 S49 ab ((putT d l rt fu ln (⟨k, v⟩ : THit)).1.1)) rfl (congrArg (fun z => arenaC 143 145 S49 ab z) e57.symm)
    refine ⟨S49, ?_, M.close [5, 0] rfl (by decide) trivial⟩
    have hth_ : (insF d (put0 l rt fu).1 (put0 l rt fu).2 (⟨k, v⟩ : THit)).2.1.2 = true := by simpa using h52
    unfold putT putU; simp only [ho_]
    try simp [hth_]
 ·
  refine W.skip (W.seq' ?_)
  replace M := M.rechunk 0 (c' := bk tb #[(vP ab), (vI ((put0 l rt fu).2.at_)), (vI ((put0 l rt fu).2.turn)), (vB true), (vI ln)] 94) rfl (by simp [put0, (by simpa using h1)])
  replace M := M.rechunk 1 (c' := arenaC 143 145 S ab ((put0 l rt fu).1)) rfl (by simp [put0, (by simpa using h1)])
  have hA0_ : SmallA (put0 l rt fu).1 := (insOk_node hO rfl).small
  refine W.region rfl (wM (vP tb) (wM (vP tb) (wP (vP tb) (wP (Value.pointer (some ⟨tb, 1, none⟩)) (wS (Value.agg #[(vI ((put0 l rt fu).2.at_)), (vI ((put0 l rt fu).2.turn))]) rfl (Step.loadN Try.ag92 rfl (M.blk 0 rfl) (nL rfl) rfl) (wM (vS k) (wM (vI v) (wP (Value.agg #[(vS k), (vI v)]) ?_))))))))
  have fq := M.frm [arenaC 143 145 S ab ((put0 l rt fu).1)] [bk tb #[(vP ab), (vI ((put0 l rt fu).2.at_)), (vI ((put0 l rt fu).2.turn)), (vB true), (vI ln)] 94] [1, 0] rfl
  refine WL.callX rfl (tr_insert d tb ab ((put0 l rt fu).2) true ln ((put0 l rt fu).1) S ((put0 l rt fu).2) (⟨k, v⟩ : THit) (by assumption) (M.eF fq ⟨(M.cF fq 0 rfl), trivial⟩)) (CallsF.func Try.en47 rfl) ?_
  rintro _ w60 ⟨u58, S59, rfl, m⟩
  replace M := M.lF fq m
  clear m
  refine wM (Value.tuple #[(vI ((insF d ((put0 l rt fu).1) ((put0 l rt fu).2) (⟨k, v⟩ : THit)).2.1.1)), (vB ((insF d ((put0 l rt fu).1) ((put0 l rt fu).2) (⟨k, v⟩ : THit)).2.1.2)), u58]) (wP (vI ((insF d ((put0 l rt fu).1) ((put0 l rt fu).2) (⟨k, v⟩ : THit)).2.1.1)) (wP (vB ((insF d ((put0 l rt fu).1) ((put0 l rt fu).2) (⟨k, v⟩ : THit)).2.1.2)) (wP u58 (wA (vI ((insF d ((put0 l rt fu).1) ((put0 l rt fu).2) (⟨k, v⟩ : THit)).2.1.1)) (wA (vB ((insF d ((put0 l rt fu).1) ((put0 l rt fu).2) (⟨k, v⟩ : THit)).2.1.2)) (wA u58 (WL.nil (W.seq' (W.seq' ?_)))))))))
  rcases ho_ : (insF d ((put0 l rt fu).1) ((put0 l rt fu).2) (⟨k, v⟩ : THit)).2.2 with _ | u_
  ·
   rw [ho_] at M
   obtain rfl := M.upNone 1 rfl
   replace M := M.sel (L' := [arenaC 143 145 S59 ab ((insF d ((put0 l rt fu).1) ((put0 l rt fu).2) (⟨k, v⟩ : THit)).1), bk tb #[(vP ab), (vI ((put0 l rt fu).2.at_)), (vI ((put0 l rt fu).2.turn)), (vB true), (vI ln)] 94]) [0, 2] rfl (by decide)
   refine W.region rfl (wM vN (wP (vB false) (WL.nil ?_)))
   refine W.cond (t := false) rfl (fun h => by cases h) (fun _ => ?_)
   refine W.skip (W.seq' (wR (wM (vB ((insF d ((put0 l rt fu).1) ((put0 l rt fu).2) (⟨k, v⟩ : THit)).2.1.2)) (wP (vB (!((insF d ((put0 l rt fu).1) ((put0 l rt fu).2) (⟨k, v⟩ : THit)).2.1.2))) (WL.nil ?_)))))
   refine W.cond (t := !((insF d ((put0 l rt fu).1) ((put0 l rt fu).2) (⟨k, v⟩ : THit)).2.1.2)) rfl (fun h62 => ?_) (fun h62 => ?_)
   ·
    refine W.region rfl (wM (vP tb) (wP (vP tb) (wP (Value.pointer (some ⟨tb, 4, none⟩)) (wS (vI ln) rfl (Step.load1 Try.sc3 rfl ((M.cell 1 rfl 4).trans rfl)) (wS (vI (ln + 1)) rfl (Step.add rfl rfl (wrap_i64 (by omega))) (wP (vP tb) (wP (Value.pointer (some ⟨tb, 4, none⟩)) ?_)))))))
    refine WL.store (v := (vI (ln + 1))) (cs := [(vI (ln + 1))]) (c' := #[(vP ab), (vI ((put0 l rt fu).2.at_)), (vI ((put0 l rt fu).2.turn)), (vB true), (vI (ln + 1))]) M 1 rfl rfl Try.el3.sized rfl rfl rfl rfl (nL rfl) (cC rfl cel_nil) rfl rfl (fun w63 M => ?_)
    refine WL.nil (wR (wM (vI ((insF d ((put0 l rt fu).1) ((put0 l rt fu).2) (⟨k, v⟩ : THit)).2.1.1)) (wS (vB false) rfl (Step.cast (congrArg Value.bool (show ((insF d ((put0 l rt fu).1) ((put0 l rt fu).2) (⟨k, v⟩ : THit)).2.1.2) = false by simpa using h62)) (Step.move rfl)) (wA (vI ((insF d ((put0 l rt fu).1) ((put0 l rt fu).2) (⟨k, v⟩ : THit)).2.1.1)) (wA (vB false) (WL.nil ?_))))))
    refine W.ret ?_
    refine ⟨.inl rfl, (Value.tuple #[(vI ((insF d ((put0 l rt fu).1) ((put0 l rt fu).2) (⟨k, v⟩ : THit)).2.1.1)), (vB false)]), ?_, ?_⟩
    · exact ⟨rfl, (Res.r2 (show RV _ _ _ (.tmp 6) (vI ((insF d ((put0 l rt fu).1) ((put0 l rt fu).2) (⟨k, v⟩ : THit)).2.1.1)) from by exact rfl) (show RV _ _ _ (.tmp 7) (vB false) from by exact rfl))⟩
    have e64 : (bk tb #[(vP ab), (vI (((putT d l rt fu ln (⟨k, v⟩ : THit)).1.2).at_)), (vI (((putT d l rt fu ln (⟨k, v⟩ : THit)).1.2).turn)), (vB true), (vI ((putT d l rt fu ln (⟨k, v⟩ : THit)).2.1))] 94 : Chunk) = (bk tb #[(vP ab), (vI ((put0 l rt fu).2.at_)), (vI ((put0 l rt fu).2.turn)), (vB true), (vI (ln + 1))] 94 : Chunk) := by
     have hth_ : (insF d (put0 l rt fu).1 (put0 l rt fu).2 (⟨k, v⟩ : THit)).2.1.2 = false := by simpa using h62
     unfold putT putU; simp only [ho_]
     try simp [hth_]
    replace M := M.rechunk 1 (c' := bk tb #[(vP ab), (vI (((putT d l rt fu ln (⟨k, v⟩ : THit)).1.2).at_)), (vI (((putT d l rt fu ln (⟨k, v⟩ : THit)).1.2).turn)), (vB true), (vI ((putT d l rt fu ln (⟨k, v⟩ : THit)).2.1))] 94) rfl e64.symm
    have e65 : (putT d l rt fu ln (⟨k, v⟩ : THit)).1.1 = (insF d ((put0 l rt fu).1) ((put0 l rt fu).2) (⟨k, v⟩ : THit)).1 := by
     have hth_ : (insF d (put0 l rt fu).1 (put0 l rt fu).2 (⟨k, v⟩ : THit)).2.1.2 = false := by simpa using h62
     unfold putT putU; simp only [ho_]
     try simp [hth_]
    replace M := M.rechunk 0 (c' := arenaC 143 145 S59 ab ((putT d l rt fu ln (⟨k, v⟩ : THit)).1.1)) rfl (congrArg (fun z => arenaC 143 145 S59 ab z) e65.symm)
    refine ⟨S59, ?_, M.close [1, 0] rfl (by decide) trivial⟩
    have hth_ : (insF d (put0 l rt fu).1 (put0 l rt fu).2 (⟨k, v⟩ : THit)).2.1.2 = false := by simpa using h62
    unfold putT putU; simp only [ho_]
    try simp [hth_]
   ·
    refine W.skip (wR (wM (vI ((insF d ((put0 l rt fu).1) ((put0 l rt fu).2) (⟨k, v⟩ : THit)).2.1.1)) (wS (vB true) rfl (Step.cast (congrArg Value.bool (show ((insF d ((put0 l rt fu).1) ((put0 l rt fu).2) (⟨k, v⟩ : THit)).2.1.2) = true by simpa using h62)) (Step.move rfl)) (wA (vI ((insF d ((put0 l rt fu).1) ((put0 l rt fu).2) (⟨k, v⟩ : THit)).2.1.1)) (wA (vB true) (WL.nil ?_))))))
    refine W.ret ?_
    refine ⟨.inl rfl, (Value.tuple #[(vI ((insF d ((put0 l rt fu).1) ((put0 l rt fu).2) (⟨k, v⟩ : THit)).2.1.1)), (vB true)]), ?_, ?_⟩
    · exact ⟨rfl, (Res.r2 (show RV _ _ _ (.tmp 6) (vI ((insF d ((put0 l rt fu).1) ((put0 l rt fu).2) (⟨k, v⟩ : THit)).2.1.1)) from by exact rfl) (show RV _ _ _ (.tmp 7) (vB true) from by exact rfl))⟩
    have e66 : (bk tb #[(vP ab), (vI (((putT d l rt fu ln (⟨k, v⟩ : THit)).1.2).at_)), (vI (((putT d l rt fu ln (⟨k, v⟩ : THit)).1.2).turn)), (vB true), (vI ((putT d l rt fu ln (⟨k, v⟩ : THit)).2.1))] 94 : Chunk) = (bk tb #[(vP ab), (vI ((put0 l rt fu).2.at_)), (vI ((put0 l rt fu).2.turn)), (vB true), (vI ln)] 94 : Chunk) := by
     have hth_ : (insF d (put0 l rt fu).1 (put0 l rt fu).2 (⟨k, v⟩ : THit)).2.1.2 = true := by simpa using h62
     unfold putT putU; simp only [ho_]
     try simp [hth_]
    replace M := M.rechunk 1 (c' := bk tb #[(vP ab), (vI (((putT d l rt fu ln (⟨k, v⟩ : THit)).1.2).at_)), (vI (((putT d l rt fu ln (⟨k, v⟩ : THit)).1.2).turn)), (vB true), (vI ((putT d l rt fu ln (⟨k, v⟩ : THit)).2.1))] 94) rfl e66.symm
    have e67 : (putT d l rt fu ln (⟨k, v⟩ : THit)).1.1 = (insF d ((put0 l rt fu).1) ((put0 l rt fu).2) (⟨k, v⟩ : THit)).1 := by
     have hth_ : (insF d (put0 l rt fu).1 (put0 l rt fu).2 (⟨k, v⟩ : THit)).2.1.2 = true := by simpa using h62
     unfold putT putU; simp only [ho_]
     try simp [hth_]
    replace M := M.rechunk 0 (c' := arenaC 143 145 S59 ab ((putT d l rt fu ln (⟨k, v⟩ : THit)).1.1)) rfl (congrArg (fun z => arenaC 143 145 S59 ab z) e67.symm)
    refine ⟨S59, ?_, M.close [1, 0] rfl (by decide) trivial⟩
    have hth_ : (insF d (put0 l rt fu).1 (put0 l rt fu).2 (⟨k, v⟩ : THit)).2.1.2 = true := by simpa using h62
    unfold putT putU; simp only [ho_]
    try simp [hth_]
  ·
   rw [ho_] at M
   obtain ⟨b61, rfl, M⟩ := M.upSome 1 rfl
   refine W.region rfl (wM (vP b61) (wP (vB true) (WL.nil ?_)))
   refine W.cond (t := true) rfl (fun _ => ?_) (fun h => by cases h)
   refine W.drawn2 M [0, 1, 2, 3, 4, 5, 6, 7, 8, 9, 11, 12, 13, 14, 15, 17, 18, 19, 20, 21, 22, 23, 24, 10, 16, 25, 26, 27] [28, 29, 30] [27, 30] [10, 16, 25] _ _ (sN (sY (sY sE))) (fun _ h => h) Try.mixed (by kernel_rfl) ?_
   refine tM (vP tb) rfl (tM (vP tb) rfl (tQ (vP tb) rfl (tQ (vP tb) rfl (tR (vP ab) rfl (fun A w M => (Step.load1 Try.sc90 rfl ((M.cell 2 rfl 0).trans rfl))) (tM (vP b61) rfl (tQ (vP b61) rfl (tQ (vP b61) rfl (tQ (vP b61) rfl (tR (vS u_.1.key) rfl (fun A w M => (Step.load1 Try.sc9 rfl ((M.cell 1 rfl 0).trans rfl))) (tM (vP b61) rfl (tQ (vP b61) rfl (tQ (vP b61) rfl (tQ (Value.pointer (some ⟨b61, 1, none⟩)) rfl (tR (vI u_.1.val) rfl (fun A w M => (Step.load1 Try.sc3 rfl ((M.cell 1 rfl 1).trans rfl))) (tM (vP tb) rfl (tQ (vP tb) rfl (tQ (Value.pointer (some ⟨tb, 1, none⟩)) rfl (tR (Value.agg #[(vI ((put0 l rt fu).2.at_)), (vI ((put0 l rt fu).2.turn))]) rfl (fun A w M => (Step.loadN Try.ag92 rfl (M.blk 2 rfl) (nL rfl) rfl)) (tM (vP b61) rfl (tQ (vP b61) rfl (tQ (Value.pointer (some ⟨b61, 2, none⟩)) rfl (tR (Value.agg #[(vI u_.2.at_), (vI u_.2.turn)]) rfl (fun A w M => (Step.loadN Try.ag92 rfl (M.blk 1 rfl) (nL rfl) rfl)) ?_))))))))))))))))))))))
   refine TW.new (obj := .cells #[(vS u_.1.key)] 9) (fun b => .slice (some ⟨b, 0, none⟩) 1 1) rfl (by decide) (by decide) rfl (fun w => Step.make (by kernel_rfl)) (fun b98 => ?_)
   refine TW.new (obj := .cells #[(vI u_.1.val)] 3) (fun b => .slice (some ⟨b, 0, none⟩) 1 1) rfl (by decide) (by decide) rfl (fun w => Step.make (by kernel_rfl)) (fun b99 => ?_)
   refine TW.new (obj := .cells #[(vI ((put0 l rt fu).2.at_)), (vI ((put0 l rt fu).2.turn)), (vI u_.2.at_), (vI u_.2.turn)] 92) (fun b => .slice (some ⟨b, 0, none⟩) 2 2) rfl (by decide) (by decide) rfl (fun w => Step.make (by kernel_rfl)) (fun b100 => ?_)
   refine tQ (Value.agg #[(vB false), (Value.slice (some ⟨b98, 0, none⟩) 1 1), (Value.slice (some ⟨b100, 0, none⟩) 2 2), (Value.slice (some ⟨b99, 0, none⟩) 1 1)]) rfl ?_
   let Q : List Chunk := [bk b100 #[(vI ((put0 l rt fu).2.at_)), (vI ((put0 l rt fu).2.turn)), (vI u_.2.at_), (vI u_.2.turn)] 92, bk b99 #[(vI u_.1.val)] 3, bk b98 #[(vS u_.1.key)] 9, bk b61 #[(vS u_.1.key), (vI u_.1.val), (vI u_.2.at_), (vI u_.2.turn)] 104, bk tb #[(vP ab), (vI ((put0 l rt fu).2.at_)), (vI ((put0 l rt fu).2.turn)), (vB true), (vI ln)] 94]
   refine TW.callX (ι := (Nat → Prop)) (fun jx v_ => v_ = (Value.agg #[(vI (((rmake ((insF d ((put0 l rt fu).1) ((put0 l rt fu).2) (⟨k, v⟩ : THit)).1) (⟨false, ([u_.1.key] : List ByteArray), ([(put0 l rt fu).2, u_.2] : List Handle), ([u_.1.val] : List Int)⟩ : Nd)).2).at_)), (vI (((rmake ((insF d ((put0 l rt fu).1) ((put0 l rt fu).2) (⟨k, v⟩ : THit)).1) (⟨false, ([u_.1.key] : List ByteArray), ([(put0 l rt fu).2, u_.2] : List Handle), ([u_.1.val] : List Int)⟩ : Nd)).2).turn))])) (fun jx => arenaC 143 145 jx ab ((rmake ((insF d ((put0 l rt fu).1) ((put0 l rt fu).2) (⟨k, v⟩ : THit)).1) (⟨false, ([u_.1.key] : List ByteArray), ([(put0 l rt fu).2, u_.2] : List Handle), ([u_.1.val] : List Int)⟩ : Nd)).1) :: Q) (fun jx => []) rfl (by decide) rfl (fun jx => (sN (sN (sN (sN (sY (sY sE))))))) (fun jx r h => h) (fun A w M => have fq := M.frm [arenaC 143 145 S59 ab ((insF d ((put0 l rt fu).1) ((put0 l rt fu).2) (⟨k, v⟩ : THit)).1)] (fl A :: Q) [4, 0, 1, 2, 3, 5, 6] rfl; Rets.mono (ar_make ab ((insF d ((put0 l rt fu).1) ((put0 l rt fu).2) (⟨k, v⟩ : THit)).1) S59 (Value.slice (some ⟨b98, 0, none⟩) 1 1) (Value.slice (some ⟨b100, 0, none⟩) 2 2) (Value.slice (some ⟨b99, 0, none⟩) 1 1) (⟨false, ([u_.1.key] : List ByteArray), ([(put0 l rt fu).2, u_.2] : List Handle), ([u_.1.val] : List Int)⟩ : Nd) (by first | assumption | exact smallA_of rfl) (by simp [insL] <;> omega) (by simp [insL] <;> omega) (by simp [insL] <;> omega) (M.eF fq ⟨((M.cF fq 3 rfl).imp fun _ h => SlAt.of_blk (n := 1) (size := 1) h rfl (by decide)), ((M.cF fq 1 rfl).imp fun _ h => SlAt.of_blk (n := 2) (size := 2) h rfl (by decide)), ((M.cF fq 2 rfl).imp fun _ h => SlAt.of_blk (n := 1) (size := 1) h rfl (by decide)), trivial⟩)) (fun v_ w_ ⟨S101, e_, m⟩ => ⟨S101, e_, (M.lF fq m).sel [1, 0, 2, 3, 4, 5, 6] rfl (by decide), fun b hb => M.kF fq m b hb⟩)) (fun w => CallsF.func Try.en46 rfl) (fun S101 v hp hin => ?_)
   replace hp := hp.symm; subst hp
   obtain ⟨_, _, hin⟩ := hin
   clear hin
   refine TW.turn _ _ (sY (sY (sY (sY (sY (sN sE)))))) (fun _ h => h) ?_
   refine tQ (vP tb) rfl (tQ (Value.pointer (some ⟨tb, 1, none⟩)) rfl ?_)
   refine TW.store (v := (Value.agg #[(vI (((rmake ((insF d ((put0 l rt fu).1) ((put0 l rt fu).2) (⟨k, v⟩ : THit)).1) (⟨false, ([u_.1.key] : List ByteArray), ([(put0 l rt fu).2, u_.2] : List Handle), ([u_.1.val] : List Int)⟩ : Nd)).2).at_)), (vI (((rmake ((insF d ((put0 l rt fu).1) ((put0 l rt fu).2) (⟨k, v⟩ : THit)).1) (⟨false, ([u_.1.key] : List ByteArray), ([(put0 l rt fu).2, u_.2] : List Handle), ([u_.1.val] : List Int)⟩ : Nd)).2).turn))])) (cs := [(vI (((rmake ((insF d ((put0 l rt fu).1) ((put0 l rt fu).2) (⟨k, v⟩ : THit)).1) (⟨false, ([u_.1.key] : List ByteArray), ([(put0 l rt fu).2, u_.2] : List Handle), ([u_.1.val] : List Int)⟩ : Nd)).2).at_)), (vI (((rmake ((insF d ((put0 l rt fu).1) ((put0 l rt fu).2) (⟨k, v⟩ : THit)).1) (⟨false, ([u_.1.key] : List ByteArray), ([(put0 l rt fu).2, u_.2] : List Handle), ([u_.1.val] : List Int)⟩ : Nd)).2).turn))]) (c' := #[(vP ab), (vI (((rmake ((insF d ((put0 l rt fu).1) ((put0 l rt fu).2) (⟨k, v⟩ : THit)).1) (⟨false, ([u_.1.key] : List ByteArray), ([(put0 l rt fu).2, u_.2] : List Handle), ([u_.1.val] : List Int)⟩ : Nd)).2).at_)), (vI (((rmake ((insF d ((put0 l rt fu).1) ((put0 l rt fu).2) (⟨k, v⟩ : THit)).1) (⟨false, ([u_.1.key] : List ByteArray), ([(put0 l rt fu).2, u_.2] : List Handle), ([u_.1.val] : List Int)⟩ : Nd)).2).turn)), (vB true), (vI ln)]) 5 rfl rfl (by decide) rfl Try.el92.sized rfl rfl rfl rfl (nL rfl) (cC rfl (cC rfl cel_nil)) rfl rfl (sY (sY (sY (sY (sY (sN sE)))))) (fun r h => h) ?_
   refine TW.done (fun w103 M => ?_)
   refine W.seq' (wR (wM (vB ((insF d ((put0 l rt fu).1) ((put0 l rt fu).2) (⟨k, v⟩ : THit)).2.1.2)) (wP (vB (!((insF d ((put0 l rt fu).1) ((put0 l rt fu).2) (⟨k, v⟩ : THit)).2.1.2))) (WL.nil ?_))))
   refine W.cond (t := !((insF d ((put0 l rt fu).1) ((put0 l rt fu).2) (⟨k, v⟩ : THit)).2.1.2)) rfl (fun h104 => ?_) (fun h104 => ?_)
   ·
    refine W.region rfl (wM (vP tb) (wP (vP tb) (wP (Value.pointer (some ⟨tb, 4, none⟩)) (wS (vI ln) rfl (Step.load1 Try.sc3 rfl ((M.cell 5 rfl 4).trans rfl)) (wS (vI (ln + 1)) rfl (Step.add rfl rfl (wrap_i64 (by omega))) (wP (vP tb) (wP (Value.pointer (some ⟨tb, 4, none⟩)) ?_)))))))
    refine WL.store (v := (vI (ln + 1))) (cs := [(vI (ln + 1))]) (c' := #[(vP ab), (vI (((rmake ((insF d ((put0 l rt fu).1) ((put0 l rt fu).2) (⟨k, v⟩ : THit)).1) (⟨false, ([u_.1.key] : List ByteArray), ([(put0 l rt fu).2, u_.2] : List Handle), ([u_.1.val] : List Int)⟩ : Nd)).2).at_)), (vI (((rmake ((insF d ((put0 l rt fu).1) ((put0 l rt fu).2) (⟨k, v⟩ : THit)).1) (⟨false, ([u_.1.key] : List ByteArray), ([(put0 l rt fu).2, u_.2] : List Handle), ([u_.1.val] : List Int)⟩ : Nd)).2).turn)), (vB true), (vI (ln + 1))]) M 5 rfl rfl Try.el3.sized rfl rfl rfl rfl (nL rfl) (cC rfl cel_nil) rfl rfl (fun w105 M => ?_)
    refine WL.nil (wR (wM (vI ((insF d ((put0 l rt fu).1) ((put0 l rt fu).2) (⟨k, v⟩ : THit)).2.1.1)) (wS (vB false) rfl (Step.cast (congrArg Value.bool (show ((insF d ((put0 l rt fu).1) ((put0 l rt fu).2) (⟨k, v⟩ : THit)).2.1.2) = false by simpa using h104)) (Step.move rfl)) (wA (vI ((insF d ((put0 l rt fu).1) ((put0 l rt fu).2) (⟨k, v⟩ : THit)).2.1.1)) (wA (vB false) (WL.nil ?_))))))
    refine W.ret ?_
    refine ⟨.inl rfl, (Value.tuple #[(vI ((insF d ((put0 l rt fu).1) ((put0 l rt fu).2) (⟨k, v⟩ : THit)).2.1.1)), (vB false)]), ?_, ?_⟩
    · exact ⟨rfl, (Res.r2 (show RV _ _ _ (.tmp 6) (vI ((insF d ((put0 l rt fu).1) ((put0 l rt fu).2) (⟨k, v⟩ : THit)).2.1.1)) from by exact rfl) (show RV _ _ _ (.tmp 7) (vB false) from by exact rfl))⟩
    have e106 : (bk tb #[(vP ab), (vI (((putT d l rt fu ln (⟨k, v⟩ : THit)).1.2).at_)), (vI (((putT d l rt fu ln (⟨k, v⟩ : THit)).1.2).turn)), (vB true), (vI ((putT d l rt fu ln (⟨k, v⟩ : THit)).2.1))] 94 : Chunk) = (bk tb #[(vP ab), (vI (((rmake ((insF d ((put0 l rt fu).1) ((put0 l rt fu).2) (⟨k, v⟩ : THit)).1) (⟨false, ([u_.1.key] : List ByteArray), ([(put0 l rt fu).2, u_.2] : List Handle), ([u_.1.val] : List Int)⟩ : Nd)).2).at_)), (vI (((rmake ((insF d ((put0 l rt fu).1) ((put0 l rt fu).2) (⟨k, v⟩ : THit)).1) (⟨false, ([u_.1.key] : List ByteArray), ([(put0 l rt fu).2, u_.2] : List Handle), ([u_.1.val] : List Int)⟩ : Nd)).2).turn)), (vB true), (vI (ln + 1))] 94 : Chunk) := by
     have hth_ : (insF d (put0 l rt fu).1 (put0 l rt fu).2 (⟨k, v⟩ : THit)).2.1.2 = false := by simpa using h104
     unfold putT putU; simp only [ho_]
     try simp [hth_]
    replace M := M.rechunk 5 (c' := bk tb #[(vP ab), (vI (((putT d l rt fu ln (⟨k, v⟩ : THit)).1.2).at_)), (vI (((putT d l rt fu ln (⟨k, v⟩ : THit)).1.2).turn)), (vB true), (vI ((putT d l rt fu ln (⟨k, v⟩ : THit)).2.1))] 94) rfl e106.symm
    have e107 : (putT d l rt fu ln (⟨k, v⟩ : THit)).1.1 = (rmake ((insF d ((put0 l rt fu).1) ((put0 l rt fu).2) (⟨k, v⟩ : THit)).1) (⟨false, ([u_.1.key] : List ByteArray), ([(put0 l rt fu).2, u_.2] : List Handle), ([u_.1.val] : List Int)⟩ : Nd)).1 := by
     have hth_ : (insF d (put0 l rt fu).1 (put0 l rt fu).2 (⟨k, v⟩ : THit)).2.1.2 = false := by simpa using h104
     unfold putT putU; simp only [ho_]
     try simp [hth_]
    replace M := M.rechunk 0 (c' := arenaC 143 145 S101 ab ((putT d l rt fu ln (⟨k, v⟩ : THit)).1.1)) rfl (congrArg (fun z => arenaC 143 145 S101 ab z) e107.symm)
    refine ⟨S101, ?_, M.close [5, 0] rfl (by decide) trivial⟩
    have hth_ : (insF d (put0 l rt fu).1 (put0 l rt fu).2 (⟨k, v⟩ : THit)).2.1.2 = false := by simpa using h104
    unfold putT putU; simp only [ho_]
    try simp [hth_]
   ·
    refine W.skip (wR (wM (vI ((insF d ((put0 l rt fu).1) ((put0 l rt fu).2) (⟨k, v⟩ : THit)).2.1.1)) (wS (vB true) rfl (Step.cast (congrArg Value.bool (show ((insF d ((put0 l rt fu).1) ((put0 l rt fu).2) (⟨k, v⟩ : THit)).2.1.2) = true by simpa using h104)) (Step.move rfl)) (wA (vI ((insF d ((put0 l rt fu).1) ((put0 l rt fu).2) (⟨k, v⟩ : THit)).2.1.1)) (wA (vB true) (WL.nil ?_))))))
    refine W.ret ?_
    refine ⟨.inl rfl, (Value.tuple #[(vI ((insF d ((put0 l rt fu).1) ((put0 l rt fu).2) (⟨k, v⟩ : THit)).2.1.1)), (vB true)]), ?_, ?_⟩
    · exact ⟨rfl, (Res.r2 (show RV _ _ _ (.tmp 6) (vI ((insF d ((put0 l rt fu).1) ((put0 l rt fu).2) (⟨k, v⟩ : THit)).2.1.1)) from by exact rfl) (show RV _ _ _ (.tmp 7) (vB true) from by exact rfl))⟩
    have e108 : (bk tb #[(vP ab), (vI (((putT d l rt fu ln (⟨k, v⟩ : THit)).1.2).at_)), (vI (((putT d l rt fu ln (⟨k, v⟩ : THit)).1.2).turn)), (vB true), (vI ((putT d l rt fu ln (⟨k, v⟩ : THit)).2.1))] 94 : Chunk) = (bk tb #[(vP ab), (vI (((rmake ((insF d ((put0 l rt fu).1) ((put0 l rt fu).2) (⟨k, v⟩ : THit)).1) (⟨false, ([u_.1.key] : List ByteArray), ([(put0 l rt fu).2, u_.2] : List Handle), ([u_.1.val] : List Int)⟩ : Nd)).2).at_)), (vI (((rmake ((insF d ((put0 l rt fu).1) ((put0 l rt fu).2) (⟨k, v⟩ : THit)).1) (⟨false, ([u_.1.key] : List ByteArray), ([(put0 l rt fu).2, u_.2] : List Handle), ([u_.1.val] : List Int)⟩ : Nd)).2).turn)), (vB true), (vI ln)] 94 : Chunk) := by
     have hth_ : (insF d (put0 l rt fu).1 (put0 l rt fu).2 (⟨k, v⟩ : THit)).2.1.2 = true := by simpa using h104
     unfold putT putU; simp only [ho_]
     try simp [hth_]
    replace M := M.rechunk 5 (c' := bk tb #[(vP ab), (vI (((putT d l rt fu ln (⟨k, v⟩ : THit)).1.2).at_)), (vI (((putT d l rt fu ln (⟨k, v⟩ : THit)).1.2).turn)), (vB true), (vI ((putT d l rt fu ln (⟨k, v⟩ : THit)).2.1))] 94) rfl e108.symm
    have e109 : (putT d l rt fu ln (⟨k, v⟩ : THit)).1.1 = (rmake ((insF d ((put0 l rt fu).1) ((put0 l rt fu).2) (⟨k, v⟩ : THit)).1) (⟨false, ([u_.1.key] : List ByteArray), ([(put0 l rt fu).2, u_.2] : List Handle), ([u_.1.val] : List Int)⟩ : Nd)).1 := by
     have hth_ : (insF d (put0 l rt fu).1 (put0 l rt fu).2 (⟨k, v⟩ : THit)).2.1.2 = true := by simpa using h104
     unfold putT putU; simp only [ho_]
     try simp [hth_]
    replace M := M.rechunk 0 (c' := arenaC 143 145 S101 ab ((putT d l rt fu ln (⟨k, v⟩ : THit)).1.1)) rfl (congrArg (fun z => arenaC 143 145 S101 ab z) e109.symm)
    refine ⟨S101, ?_, M.close [5, 0] rfl (by decide) trivial⟩
    have hth_ : (insF d (put0 l rt fu).1 (put0 l rt fu).2 (⟨k, v⟩ : THit)).2.1.2 = true := by simpa using h104
    unfold putT putU; simp only [ho_]
    try simp [hth_]
end Go.Proofs
namespace Tp
open Go
def FnS (P : Program) (f : Value) (p : ByteArray → Bool) (w : World) : Prop := ∀ x : ByteArray, RetsV P f #[.string x] w fun r w' => r = .bool (p x) ∧ Old w w'
def lookOk : Nat → List RPlace → Handle → Prop
  | 0, l, h => NodeMay l (rget l h).1 ∧ (rget l h).1.leaf = true
  | d + 1, l, h => NodeMay l (rget l h).1 ∧ (rget l h).1.leaf = false ∧ (rget l h).1.kids.length = (rget l h).1.keys.length + 1 ∧ ∀ c, c ∈ (rget l h).1.kids → lookOk d l c
section
variable {l : List RPlace} {h : Handle} {n : Nd} {d lo K : Nat} {p : ByteArray → Bool} {b : THit × Bool} {c : Handle}
theorem lookOk_node (hO : lookOk d l h) (hn : (rget l h).1 = n) : tinyN n ∧ n.vals.length = n.keys.length := by
  subst hn
  cases d with
  | zero => exact ⟨hO.1.1, hO.1.2⟩
  | succ d => exact ⟨hO.1.1, hO.1.2⟩
theorem lookOk_kid (hO : lookOk d l h) (hn : (rget l h).1 = n) (hl : n.leaf = false) : ∃ e, d = e + 1 ∧ n.kids.length = n.keys.length + 1 ∧ ∀ c, c ∈ n.kids → lookOk e l c := by
  subst hn
  cases d with
  | zero => rw [hO.2] at hl; cases hl
  | succ d => exact ⟨d, rfl, hO.2.2⟩
theorem look_okW : ∀ {d lo : Nat} {t : BT}, HoldsB l d t → okB lo d t → BigA l K → lookOk d l t.h := by
  intro d
  induction d with
  | zero =>
    intro lo t H ho hB
    obtain ⟨h, ks, ts⟩ := t
    have e := (holds_mk.1 H).1
    unfold lookOk
    rw [show (BT.mk h ks ts).h = h from rfl, atA_get e]
    exact ⟨⟨hB.at e, by simp [nodeB]⟩, rfl⟩
  | succ d ih =>
    intro lo t H ho hB
    obtain ⟨h, ks, ts⟩ := t
    have e := (holds_mk.1 H).1
    obtain ⟨o1, o2, o3⟩ := ok_mk.1 ho
    unfold lookOk
    rw [show (BT.mk h ks ts).h = h from rfl, atA_get e]
    refine ⟨⟨hB.at e, by simp [nodeB]⟩, rfl, kids_len o3, fun c hc => ?_⟩
    rw [nodeB_kids, if_neg (by simp)] at hc
    obtain ⟨s, hs, rfl⟩ := List.mem_map.1 hc
    exact ih ((holds_mk.1 H).2 s hs) (o3.2 s hs) hB
theorem leastT_leaf (hn : (rget l h).1 = n) (hl : n.leaf = true) : leastT d l h p b = if n.keys.findIdx p < n.keys.length then (hitOf n (n.keys.findIdx p), true) else b := by
  subst hn; cases d <;> (unfold leastT; simp [hl])
theorem leastT_kid (hn : (rget l h).1 = n) (hl : n.leaf = false) : leastT (d + 1) l h p b = leastT d l (n.kids.getD (n.keys.findIdx p) hdZero) p (if n.keys.findIdx p < n.keys.length then (hitOf n (n.keys.findIdx p), true) else b) := by
  subst hn
  conv => lhs; unfold leastT
  simp only [hl, Bool.false_eq_true, if_false]
theorem greatT_leaf (hn : (rget l h).1 = n) (hl : n.leaf = true) : greatT d l h p b = if 0 < endI n.keys p then (hitOf n (endI n.keys p - 1), true) else b := by
  subst hn; cases d <;> (unfold greatT; simp [hl])
theorem greatT_kid (hn : (rget l h).1 = n) (hl : n.leaf = false) : greatT (d + 1) l h p b = greatT d l (n.kids.getD (endI n.keys p) hdZero) p (if 0 < endI n.keys p then (hitOf n (endI n.keys p - 1), true) else b) := by
  subst hn
  conv => lhs; unfold greatT
  simp only [hl, Bool.false_eq_true, if_false]
def noHit : THit × Bool := (⟨⟨#[]⟩, 0⟩, false)
def lookT (fu : Bool) (d : Nat) (l : List RPlace) (h : Handle) (p : ByteArray → Bool) : THit × Bool := if fu then leastT d l h p noHit else noHit
def lookG (fu : Bool) (d : Nat) (l : List RPlace) (h : Handle) (p : ByteArray → Bool) : THit × Bool := if fu then greatT d l h p noHit else noHit
theorem find_at {ks : List ByteArray} {i : Nat} {x : ByteArray} (hx : ks[i]? = some x) (hp : p x = true) (hb : ∀ j u, j < i → ks[j]? = some u → p u = false) : ks.findIdx p = i := by
  obtain ⟨h1, rfl⟩ := List.getElem?_eq_some_iff.1 hx
  exact (List.findIdx_eq h1).2 ⟨hp, fun j hj => by simpa using hb j _ hj (List.getElem?_eq_getElem (by omega))⟩
theorem find_end {ks : List ByteArray} {i : Nat} (hi : ks.length ≤ i) (hb : ∀ j u, j < i → ks[j]? = some u → p u = false) : ks.findIdx p = ks.length := by
  refine List.findIdx_eq_length.2 fun x hx => ?_
  obtain ⟨j, hj, rfl⟩ := List.mem_iff_getElem.1 hx
  simpa using hb j _ (by omega) (List.getElem?_eq_getElem hj)
theorem endI_eq {ks : List ByteArray} {i : Nat} (hi : i ≤ ks.length) (hb : ∀ j u, i ≤ j → ks[j]? = some u → p u = false) (h0 : 0 < i → ∃ u, ks[i - 1]? = some u ∧ p u = true) : endI ks p = i := by
  unfold endI
  have hb' : ∀ j u, j < ks.length - i → ks.reverse[j]? = some u → p u = false := fun j u hj hu => by
    rw [List.getElem?_reverse (by omega)] at hu
    exact hb _ u (by omega) hu
  rcases Nat.eq_zero_or_pos i with h | h
  · rw [find_end (i := ks.length - i) (by simp; omega) hb', List.length_reverse]; omega
  · obtain ⟨u, h1, h2⟩ := h0 h
    rw [find_at (i := ks.length - i) (x := u) (by rw [List.getElem?_reverse (by omega)]; rw [← h1]; congr 1; omega) h2 hb']; omega
theorem above_step {ks : List ByteArray} {i : Nat} {u : ByteArray} (hb : ∀ j u, i ≤ j → ks[j]? = some u → p u = false) (hx : ks[i - 1]? = some u) (hp : p u = false) : ∀ j u, i - 1 ≤ j → ks[j]? = some u → p u = false := by
  intro j v hj hv
  rcases Nat.lt_or_ge j i with h | h
  · have : j = i - 1 := by omega
    subst this
    rw [hx] at hv; cases hv; exact hp
  · exact hb j v h hv
theorem sLe (x k : ByteArray) : (sLt x k || x.toList == k.toList) = !(sLt k x) := by
  rw [sEq_dec]
  cases h1 : sLt x k with
  | true => rw [sLt_asymm h1]; rfl
  | false =>
    cases h2 : sLt k x with
    | true => simp; exact (sLt_ne h2).symm
    | false => simp; exact sLt_total h1 h2
theorem sGt (x k : ByteArray) : (!(sLt x k || x.toList == k.toList)) = sLt k x := by rw [sLe, Bool.not_not]
def getT (fu : Bool) (d : Nat) (l : List RPlace) (h : Handle) (k : ByteArray) : Int × Bool :=
  if (lookT fu d l h (fun (x : ByteArray) => !(sLt x k))).2 = true ∧ (lookT fu d l h (fun (x : ByteArray) => !(sLt x k))).1.key = k then ((lookT fu d l h (fun (x : ByteArray) => !(sLt x k))).1.val, true) else (0, false)
end
end Tp
set_option maxRecDepth 100000
namespace Go.Proofs
open Go Tp
set_option maxHeartbeats 1000000 in
theorem tr_least {G X : Nat → Prop} {w : World} (tb ab : Nat) (rt : Handle) (fu : Bool) (ln : Int) (l : List RPlace) (S : Nat → Prop) (f : Value) (p : ByteArray → Bool)  (hA : SmallA l) (d : Nat) (hLk : fu = true → lookOk d l rt) (M : Mem G X w [arenaC 143 145 S ab l] [bF tb #[(vP ab), (vI rt.at_), (vI rt.turn), (vB fu), (vI ln)] 94, FnS Try.prog f p] w) : Rets Try.prog 79 #[(vP tb), f] w fun r w' => r = (Value.tuple #[(Value.agg #[(vS (((lookT fu d l rt p).1).key)), (vI (((lookT fu d l rt p).1).val))]), (vB ((lookT fu d l rt p).2))]) ∧ Mem G X w [arenaC 143 145 S ab l] [] w' := by
 refine Rets.enter 69 _ Try.func79 rfl Try.ntmps79 Try.results79 (by simp) ?_
 refine wR ?_
 refine WL.alloc (c := #[(vS sZ), (vI 0)]) M rfl Try.el41.zero rfl (fun b1 w2 hb1 M => ?_)
 refine wA (vB false) (WL.nil (W.seq' (wR (wM (vP tb) (wP (vB false) (wM (vB false) (wM (vP tb) (wP (vP tb) (wP (Value.pointer (some ⟨tb, 3, none⟩)) (wS (vB fu) rfl (Step.load1 Try.sc4 rfl ((cell_blk (M.rep 0 rfl) 3).trans rfl)) (wP (vB !fu) (wS (vB !fu) rfl (Step.pick (t := false) rfl rfl) (WL.nil ?_)))))))))))))
 refine W.cond (t := !fu) rfl (fun h3 => ?_) (fun h3 => ?_)
 ·
  refine wR (wP (Value.agg #[(vS sZ), (vI 0)]) ?_)
  refine WL.store (v := (Value.agg #[(vS sZ), (vI 0)])) (cs := [(vS sZ), (vI 0)]) (c' := #[(vS sZ), (vI 0)]) M 0 rfl rfl Try.el41.sized rfl rfl rfl rfl (nL rfl) (cC rfl (cC rfl cel_nil)) rfl rfl (fun w4 M => ?_)
  refine wA (vB false) (WL.nil ?_)
  refine W.ret ?_
  refine ⟨.inl rfl, (Value.tuple #[(Value.agg #[(vS sZ), (vI 0)]), (vB false)]), ?_, ?_⟩
  · exact ⟨rfl, (Res.r2 (RV.cellN Try.ag41 rfl (M.blk 0 rfl) rfl) (show RV _ _ _ (.tmp 5) (vB false) from by exact rfl))⟩
  refine ⟨?_, M.close [1] rfl (by decide) trivial⟩
  have hfu_ : fu = false := (by simpa using h3)
  simp [lookT, noHit, hfu_]
 ·
  refine W.skip (wR (wM (vP tb) (wP (vP tb) (wP (Value.pointer (some ⟨tb, 1, none⟩)) (wS (Value.agg #[(vI rt.at_), (vI rt.turn)]) rfl (Step.loadN Try.ag92 rfl (M.rep 0 rfl) (nL rfl) rfl) ?_)))))
  refine WL.alloc (c := #[(vI 0), (vI 0)]) M rfl Try.el92.zero rfl (fun b5 w6 hb5 M => ?_)
  refine WL.store (v := (Value.agg #[(vI rt.at_), (vI rt.turn)])) (cs := [(vI rt.at_), (vI rt.turn)]) (c' := #[(vI rt.at_), (vI rt.turn)]) M 0 rfl rfl Try.el92.sized rfl rfl rfl rfl (nL rfl) (cC rfl (cC rfl cel_nil)) rfl rfl (fun w7 M => ?_)
  refine WL.nil (W.block ?_)
  replace M := M.sel (L' := [bk b5 #[(vI rt.at_), (vI rt.turn)] 92, bk b1 #[(vS sZ), (vI 0)] 41, arenaC 143 145 S ab l]) [0, 1, 2] rfl (by decide)
  refine W.loop (fun kk ρ w' => ∃ (hb_ : Nat) (h_ : Handle) (d_ : Nat) (b_ : THit × Bool), ((lookOk d_ l h_) ∧ (leastT d_ l h_ p b_ = leastT d l rt p noHit) ∧ kk = d_ + 1) ∧ ρ.has [(0, (vP tb)), (1, f), (4, (vP b1)), (5, (vB b_.2)), (6, (vP hb_))] ∧ Mem G X w [bk hb_ #[(vI h_.at_), (vI h_.turn)] 92, bk b1 #[(vS b_.1.key), (vI b_.1.val)] 41, arenaC 143 145 S ab l] [bF tb #[(vP ab), (vI rt.at_), (vI rt.turn), (vB fu), (vI ln)] 94, FnS Try.prog f p]  w') _ ⟨b5, rt, d, noHit, ⟨(hLk (by simpa using h3)), rfl, rfl⟩, ⟨rfl, rfl, rfl, rfl, rfl, rfl, rfl⟩, M⟩ ?_
  rintro _ ρ9 w8 ⟨hb_, h_, d_, b_, ⟨hi10, hi11, rfl⟩, hρ, M⟩
  obtain ⟨ρ9, rfl⟩ := hρ.know
  clear hρ
  have hLk_ : lookOk d_ l h_ := hi10
  have hEq_ : leastT d_ l h_ p b_ = leastT d l rt p noHit := hi11
  obtain ⟨n, hn⟩ : ∃ n, (rget l h_).1 = n := ⟨_, rfl⟩
  obtain ⟨⟨ht1, ht2, ht3⟩, hvl⟩ := lookOk_node hLk_ hn
  refine W.seq' (W.block (wR (wM (vP tb) (wS (Value.agg #[(vI h_.at_), (vI h_.turn)]) rfl (Step.loadN Try.ag92 rfl (M.blk 0 rfl) (nL rfl) rfl) ?_))))
  have fq := M.frm [arenaC 143 145 S ab l] [bk hb_ #[(vI h_.at_), (vI h_.turn)] 92, bk b1 #[(vS b_.1.key), (vI b_.1.val)] 41] [2, 0, 1] rfl
  refine WL.callX rfl (tr_node tb ab rt fu ln l S h_ (by assumption) n hn (M.eF fq ⟨(M.rF fq 0 rfl), trivial⟩)) (CallsF.func Try.en49 rfl) ?_
  rintro _ w15 ⟨kv12, dv13, vv14, rfl, m⟩
  replace M := M.lF fq m
  clear m
  have sl16 : IsSl kv12 := SlAt.isSl (oW (Mem.chunk M 1 rfl).inv)
  have hle17 := SlAt.le' (oW (Mem.chunk M 1 rfl).inv)
  have sl18 : IsSl dv13 := SlAt.isSl (oW (Mem.chunk M 2 rfl).inv)
  have hle19 := SlAt.le' (oW (Mem.chunk M 2 rfl).inv)
  have sl20 : IsSl vv14 := SlAt.isSl (oW (Mem.chunk M 3 rfl).inv)
  have hle21 := SlAt.le' (oW (Mem.chunk M 3 rfl).inv)
  refine WL.alloc (c := #[(vB false), vZ, vZ, vZ]) M rfl Try.el99.zero rfl (fun b22 w23 hb22 M => ?_)
  refine WL.store (v := (Value.agg #[(vB n.leaf), kv12, dv13, vv14])) (cs := [(vB n.leaf), kv12, dv13, vv14]) (c' := #[(vB n.leaf), kv12, dv13, vv14]) M 0 rfl rfl Try.el99.sized rfl rfl rfl rfl (nL rfl) (cC rfl (cC (IsSl.cel sl16) (cC (IsSl.cel sl18) (cC (IsSl.cel sl20) cel_nil)))) rfl rfl (fun w24 M => ?_)
  refine WL.nil (wR (wA (vI 0) (WL.nil (W.seq' (W.block ?_)))))
  refine W.loop (fun kk ρ w' => ∃ (i_ : Nat), ((i_ ≤ n.keys.length) ∧ (∀ j u, j < i_ → n.keys[j]? = some u → p u = false) ∧ kk = n.keys.length - i_) ∧ ρ.has [(0, (vP tb)), (1, f), (4, (vP b1)), (5, (vB b_.2)), (6, (vP hb_)), (7, (vP b22)), (8, (vI ↑i_)), (23, (vP tb)), (24, (Value.agg #[(vI h_.at_), (vI h_.turn)])), (25, (Value.agg #[(vB n.leaf), kv12, dv13, vv14]))] ∧ Mem G X w [bk b22 #[(vB n.leaf), kv12, dv13, vv14] 99, arenaC 143 145 S ab l, oS kv12 n.keys, oH dv13 n.kids, oI vv14 n.vals, bk hb_ #[(vI h_.at_), (vI h_.turn)] 92, bk b1 #[(vS b_.1.key), (vI b_.1.val)] 41] [bF tb #[(vP ab), (vI rt.at_), (vI rt.turn), (vB fu), (vI ln)] 94, FnS Try.prog f p]  w') _ ⟨0, ⟨(Nat.zero_le _), (fun _ _ h => absurd h (Nat.not_lt_zero _)), rfl⟩, ⟨rfl, rfl, rfl, rfl, rfl, rfl, rfl, rfl, rfl, rfl, rfl, rfl⟩, M⟩ ?_
  rintro _ ρ26 w25 ⟨i_, ⟨hi27, hi28, rfl⟩, hρ, M⟩
  obtain ⟨ρ26, rfl⟩ := hρ.know
  clear hρ
  refine W.seq' (wR (wM (vI ↑i_) (wP (Value.pointer (some ⟨b22, 1, none⟩)) (wS kv12 rfl (Step.load1 Try.sc22 rfl ((M.cell 0 rfl 1).trans rfl)) (wS (vI ↑n.keys.length) rfl (Step.lenSl Try.un22 rfl (oW (M.chunk 2 rfl).inv)) (wP (vB (decide ((↑i_ : Int) < (↑n.keys.length : Int)))) (wM (vB (decide ((↑i_ : Int) < (↑n.keys.length : Int)))) ?_)))))))
  rcases Bool.eq_false_or_eq_true (decide ((↑i_ : Int) < (↑n.keys.length : Int))) with h29 | h29
  ·
   have h29p := dT h29
   rw [h29]
   refine wM f (wP (Value.pointer (some ⟨b22, 1, none⟩)) (wS kv12 rfl (Step.load1 Try.sc22 rfl ((M.cell 0 rfl 1).trans rfl)) (wM (vI ↑i_) ?_)))
   obtain ⟨cap31, hb30⟩ := SlAt.base (oW (M.chunk 2 rfl).inv) (by omega)
   obtain ⟨x32, hx32⟩ := elem_of_lt (xs := n.keys) (i := i_) (by omega)
   refine wS (vQ kv12 i_ 1) rfl (sX i_ Try.un22 Try.el9 rfl rfl hb30) (wS (vS x32) rfl (Step.loadE (k := 0) Try.sc9 (flat_ec (oW (M.chunk 2 rfl).inv) hx32 strE_len) (by decide) rfl rfl) ?_)
   refine WL.callV rfl rfl rfl ((M.rep 1 rfl : FnS _ _ _ _) x32) ?_
   rintro _ w33 ⟨rfl, ho⟩
   replace M := M.old ho
   refine wP (vB (!(p x32))) (wS (vB (!(p x32))) rfl (Step.pick (t := true) rfl rfl) (WL.nil ?_))
   refine W.cond (t := !(p x32)) rfl (fun h34 => ?_) (fun h34 => ?_)
   ·
    refine W.skip (W.block (W.region rfl (wM (vI ↑i_) (wS (vI (↑i_ + 1)) rfl (Step.add rfl rfl (wrap_i64 (by omega))) (wA (vI (↑i_ + 1)) (WL.nil ?_))))))
    exact ⟨_, (by omega), i_ + 1, ⟨(by omega), (below_stepG hi28 hx32 (by simpa using h34)), rfl⟩, ⟨rfl, rfl, rfl, rfl, rfl, rfl, rfl, rfl, rfl, rfl, rfl, rfl⟩, M⟩
   ·
    have hfi_ : n.keys.findIdx p = i_ := find_at hx32 (by simpa using h34) hi28
    have hil_ : i_ < n.keys.length := (List.getElem?_eq_some_iff.1 hx32).1
    refine W.exit (thn_exit (thn_exit ?_))
    refine inBlk_hit ?_
    refine W.seq' (wR (wM (vI ↑i_) (wP (Value.pointer (some ⟨b22, 1, none⟩)) (wS kv12 rfl (Step.load1 Try.sc22 rfl ((M.cell 0 rfl 1).trans rfl)) (wS (vI ↑n.keys.length) rfl (Step.lenSl Try.un22 rfl (oW (M.chunk 2 rfl).inv)) (wS (vB true) rfl (Step.cast (congrArg Value.bool h29) sP) (WL.nil ?_)))))))
    refine W.cond (t := true) rfl (fun _ => ?_) (fun h => by cases h)
    obtain ⟨cap36, hb35⟩ := SlAt.base (oW (M.chunk 4 rfl).inv) (by omega)
    obtain ⟨x37, hx37⟩ := elem_of_lt (xs := n.vals) (i := i_) (by omega)
    refine W.drawn M [0, 1, 2, 3, 4, 5, 6, 7, 8, 9, 10, 11, 12] [11] [] _ _ (sY (sY (sY (sY (sY (sY (sN sE))))))) (fun _ h => h) Try.mixed (by kernel_rfl) ?_
    refine tQ (Value.pointer (some ⟨b22, 1, none⟩)) rfl (tR kv12 rfl (fun A w M => (Step.load1 Try.sc22 rfl ((M.cell 1 rfl 1).trans rfl))) (tM (vI ↑i_) rfl (tP (vQ kv12 i_ 1) rfl (fun w => (sX i_ Try.un22 Try.el9 rfl rfl hb30)) (tR (vS x32) rfl (fun A w M => (Step.loadE (k := 0) Try.sc9 (flat_ec (oW (M.chunk 3 rfl).inv) hx32 strE_len) (by decide) rfl rfl)) (tQ (Value.pointer (some ⟨b22, 3, none⟩)) rfl (tR vv14 rfl (fun A w M => (Step.load1 Try.sc97 rfl ((M.cell 1 rfl 3).trans rfl))) (tM (vI ↑i_) rfl (tP (vQ vv14 i_ 1) rfl (fun w => (sX i_ Try.un97 Try.el3 rfl rfl hb35)) (tR (vI x37) rfl (fun A w M => (Step.loadE (k := 0) Try.sc3 (flat_ec (oW (M.chunk 5 rfl).inv) hx37 intE_len) (by decide) rfl rfl)) (tQ (Value.agg #[(vS x32), (vI x37)]) rfl ?_))))))))))
    refine TW.store (v := (Value.agg #[(vS x32), (vI x37)])) (cs := [(vS x32), (vI x37)]) (c' := #[(vS x32), (vI x37)]) 6 rfl rfl (by decide) rfl Try.el41.sized rfl rfl rfl rfl (nL rfl) (cC rfl (cC rfl cel_nil)) rfl rfl (sY (sY (sY (sY (sY (sY (sN sE))))))) (fun r h => h) ?_
    refine tP (vB true) rfl (fun w => (Step.assign rfl)) ?_
    refine TW.done (fun w40 M => ?_)
    refine W.seq' (wR (wP (vP b22) (wS (vB n.leaf) rfl (Step.load1 Try.sc4 rfl ((M.cell 0 rfl 0).trans rfl)) (WL.nil ?_))))
    refine W.cond (t := n.leaf) rfl (fun h41 => ?_) (fun h41 => ?_)
    ·
     have hlf_ : n.leaf = true := h41
     refine wR (wS (Value.agg #[(vS x32), (vI x37)]) rfl (Step.loadN Try.ag41 rfl (M.blk 6 rfl) (nL rfl) rfl) (wM (vB true) ?_))
     refine WL.store (v := (Value.agg #[(vS x32), (vI x37)])) (cs := [(vS x32), (vI x37)]) (c' := #[(vS x32), (vI x37)]) M 6 rfl rfl Try.el41.sized rfl rfl rfl rfl (nL rfl) (cC rfl (cC rfl cel_nil)) rfl rfl (fun w42 M => ?_)
     refine wA (vB true) (WL.nil ?_)
     refine W.ret ?_
     refine ⟨.inl rfl, (Value.tuple #[(Value.agg #[(vS x32), (vI x37)]), (vB true)]), ?_, ?_⟩
     · exact ⟨rfl, (Res.r2 (RV.cellN Try.ag41 rfl (M.blk 6 rfl) rfl) (show RV _ _ _ (.tmp 5) (vB true) from by exact rfl))⟩
     refine ⟨?_, M.close [1] rfl (by decide) trivial⟩
     unfold lookT; rw [if_pos (by simpa using h3), ← hEq_, leastT_leaf hn hlf_, hfi_, if_pos hil_]; try simp [hitOf, List.getD, h3, h29p, hx32, h34, hx37, h41]
    ·
     have hlf_ : n.leaf = false := h41
     obtain ⟨e, rfl, hkl_, hLk2_⟩ := lookOk_kid hLk_ hn hlf_
     refine W.skip (W.region rfl (wP (Value.pointer (some ⟨b22, 2, none⟩)) (wS dv13 rfl (Step.load1 Try.sc96 rfl ((M.cell 0 rfl 2).trans rfl)) (wM (vI ↑i_) ?_))))
     obtain ⟨cap44, hb43⟩ := SlAt.base (oW (M.chunk 3 rfl).inv) (by omega)
     obtain ⟨x45, hx45⟩ := elem_of_lt (xs := n.kids) (i := i_) (by omega)
     have hgd_ : n.kids.getD i_ hdZero = x45 := by rw [List.getD_eq_getElem?_getD, hx45]; rfl
     refine wS (vQ dv13 i_ 2) rfl (sX i_ Try.un96 Try.el92 rfl rfl hb43) (wS (Value.agg #[(vI x45.at_), (vI x45.turn)]) rfl (Step.loadEN (k := 0) (cs' := [(vI x45.at_), (vI x45.turn)]) Try.ag92 (flat_ec (oW (M.chunk 3 rfl).inv) hx45 handleE_len) (by decide) rfl rfl rfl) ?_)
     refine WL.store (v := (Value.agg #[(vI x45.at_), (vI x45.turn)])) (cs := [(vI x45.at_), (vI x45.turn)]) (c' := #[(vI x45.at_), (vI x45.turn)]) M 5 rfl rfl Try.el92.sized rfl rfl rfl rfl (nL rfl) (cC rfl (cC rfl cel_nil)) rfl rfl (fun w46 M => ?_)
     refine WL.nil (wR (wS (Value.agg #[(vI x45.at_), (vI x45.turn)]) rfl (Step.loadN Try.ag92 rfl (M.blk 5 rfl) (nL rfl) rfl) (WL.nil (W.region rfl ?_))))
     refine WL.alloc (c := #[(vI 0), (vI 0)]) M rfl Try.el92.zero rfl (fun b47 w48 hb47 M => ?_)
     refine WL.store (v := (Value.agg #[(vI x45.at_), (vI x45.turn)])) (cs := [(vI x45.at_), (vI x45.turn)]) (c' := #[(vI x45.at_), (vI x45.turn)]) M 0 rfl rfl Try.el92.sized rfl rfl rfl rfl (nL rfl) (cC rfl (cC rfl cel_nil)) rfl rfl (fun w49 M => ?_)
     refine WL.nil ?_
     replace M := M.sel (L' := [bk b47 #[(vI x45.at_), (vI x45.turn)] 92, bk b1 #[(vS x32), (vI x37)] 41, arenaC 143 145 S ab l]) [0, 7, 2] rfl (by decide)
     exact ⟨_, (by omega), b47, x45, e, ((⟨x32, x37⟩ : THit), true), ⟨(hLk2_ _ (List.mem_of_getElem? hx45)), (by rw [← hEq_, leastT_kid hn hlf_, hfi_, hgd_, if_pos hil_]; try simp [hitOf, List.getD, h3, h29p, hx32, h34, hx37, h41, hx45]), rfl⟩, ⟨rfl, rfl, rfl, rfl, rfl, rfl, rfl⟩, M⟩
  ·
   have h29p := dF h29
   have hfi_ : n.keys.findIdx p = i_ := (find_end (by omega) hi28).trans (by omega)
   have hil_ : ¬ i_ < n.keys.length := by omega
   rw [h29]
   refine WL.pass rfl (WL.pass rfl (WL.pass rfl (WL.pass rfl (WL.pass rfl (WL.pass rfl (WL.pass rfl (WL.pass rfl (wS (vB false) rfl (Step.pick (t := false) rfl rfl) (WL.nil ?_)))))))))
   refine W.cond (t := false) rfl (fun h => by cases h) (fun _ => ?_)
   refine W.exit (thn_exit (thn_exit ?_))
   refine inBlk_hit ?_
   refine W.seq' (wR (wM (vI ↑i_) (wP (Value.pointer (some ⟨b22, 1, none⟩)) (wS kv12 rfl (Step.load1 Try.sc22 rfl ((M.cell 0 rfl 1).trans rfl)) (wS (vI ↑n.keys.length) rfl (Step.lenSl Try.un22 rfl (oW (M.chunk 2 rfl).inv)) (wS (vB false) rfl (Step.cast (congrArg Value.bool h29) sP) (WL.nil ?_)))))))
   refine W.cond (t := false) rfl (fun h => by cases h) (fun _ => ?_)
   refine W.skip (W.seq' (wR (wP (vP b22) (wS (vB n.leaf) rfl (Step.load1 Try.sc4 rfl ((M.cell 0 rfl 0).trans rfl)) (WL.nil ?_)))))
   refine W.cond (t := n.leaf) rfl (fun h50 => ?_) (fun h50 => ?_)
   ·
    have hlf_ : n.leaf = true := h50
    refine wR (wS (Value.agg #[(vS b_.1.key), (vI b_.1.val)]) rfl (Step.loadN Try.ag41 rfl (M.blk 6 rfl) (nL rfl) rfl) (wM (vB b_.2) ?_))
    refine WL.store (v := (Value.agg #[(vS b_.1.key), (vI b_.1.val)])) (cs := [(vS b_.1.key), (vI b_.1.val)]) (c' := #[(vS b_.1.key), (vI b_.1.val)]) M 6 rfl rfl Try.el41.sized rfl rfl rfl rfl (nL rfl) (cC rfl (cC rfl cel_nil)) rfl rfl (fun w51 M => ?_)
    refine wA (vB b_.2) (WL.nil ?_)
    refine W.ret ?_
    refine ⟨.inl rfl, (Value.tuple #[(Value.agg #[(vS b_.1.key), (vI b_.1.val)]), (vB b_.2)]), ?_, ?_⟩
    · exact ⟨rfl, (Res.r2 (RV.cellN Try.ag41 rfl (M.blk 6 rfl) rfl) (show RV _ _ _ (.tmp 5) (vB b_.2) from by exact rfl))⟩
    refine ⟨?_, M.close [1] rfl (by decide) trivial⟩
    unfold lookT; rw [if_pos (by simpa using h3), ← hEq_, leastT_leaf hn hlf_, hfi_, if_neg hil_]; try simp [hitOf, List.getD, h3, h29p, h50]
   ·
    have hlf_ : n.leaf = false := h50
    obtain ⟨e, rfl, hkl_, hLk2_⟩ := lookOk_kid hLk_ hn hlf_
    refine W.skip (W.region rfl (wP (Value.pointer (some ⟨b22, 2, none⟩)) (wS dv13 rfl (Step.load1 Try.sc96 rfl ((M.cell 0 rfl 2).trans rfl)) (wM (vI ↑i_) ?_))))
    obtain ⟨cap53, hb52⟩ := SlAt.base (oW (M.chunk 3 rfl).inv) (by omega)
    obtain ⟨x54, hx54⟩ := elem_of_lt (xs := n.kids) (i := i_) (by omega)
    have hgd_ : n.kids.getD i_ hdZero = x54 := by rw [List.getD_eq_getElem?_getD, hx54]; rfl
    refine wS (vQ dv13 i_ 2) rfl (sX i_ Try.un96 Try.el92 rfl rfl hb52) (wS (Value.agg #[(vI x54.at_), (vI x54.turn)]) rfl (Step.loadEN (k := 0) (cs' := [(vI x54.at_), (vI x54.turn)]) Try.ag92 (flat_ec (oW (M.chunk 3 rfl).inv) hx54 handleE_len) (by decide) rfl rfl rfl) ?_)
    refine WL.store (v := (Value.agg #[(vI x54.at_), (vI x54.turn)])) (cs := [(vI x54.at_), (vI x54.turn)]) (c' := #[(vI x54.at_), (vI x54.turn)]) M 5 rfl rfl Try.el92.sized rfl rfl rfl rfl (nL rfl) (cC rfl (cC rfl cel_nil)) rfl rfl (fun w55 M => ?_)
    refine WL.nil (wR (wS (Value.agg #[(vI x54.at_), (vI x54.turn)]) rfl (Step.loadN Try.ag92 rfl (M.blk 5 rfl) (nL rfl) rfl) (WL.nil (W.region rfl ?_))))
    refine WL.alloc (c := #[(vI 0), (vI 0)]) M rfl Try.el92.zero rfl (fun b56 w57 hb56 M => ?_)
    refine WL.store (v := (Value.agg #[(vI x54.at_), (vI x54.turn)])) (cs := [(vI x54.at_), (vI x54.turn)]) (c' := #[(vI x54.at_), (vI x54.turn)]) M 0 rfl rfl Try.el92.sized rfl rfl rfl rfl (nL rfl) (cC rfl (cC rfl cel_nil)) rfl rfl (fun w58 M => ?_)
    refine WL.nil ?_
    replace M := M.sel (L' := [bk b56 #[(vI x54.at_), (vI x54.turn)] 92, bk b1 #[(vS b_.1.key), (vI b_.1.val)] 41, arenaC 143 145 S ab l]) [0, 7, 2] rfl (by decide)
    exact ⟨_, (by omega), b56, x54, e, b_, ⟨(hLk2_ _ (List.mem_of_getElem? hx54)), (by rw [← hEq_, leastT_kid hn hlf_, hfi_, hgd_, if_neg hil_]; try simp [hitOf, List.getD, h3, h29p, h50, hx54]), rfl⟩, ⟨rfl, rfl, rfl, rfl, rfl, rfl, rfl⟩, M⟩
end Go.Proofs
set_option maxRecDepth 100000
namespace Go.Proofs
open Go Tp
set_option maxHeartbeats 1000000 in
theorem tr_greatest {G X : Nat → Prop} {w : World} (tb ab : Nat) (rt : Handle) (fu : Bool) (ln : Int) (l : List RPlace) (S : Nat → Prop) (f : Value) (p : ByteArray → Bool)  (hA : SmallA l) (d : Nat) (hLk : fu = true → lookOk d l rt) (M : Mem G X w [arenaC 143 145 S ab l] [bF tb #[(vP ab), (vI rt.at_), (vI rt.turn), (vB fu), (vI ln)] 94, FnS Try.prog f p] w) : Rets Try.prog 97 #[(vP tb), f] w fun r w' => r = (Value.tuple #[(Value.agg #[(vS (((lookG fu d l rt p).1).key)), (vI (((lookG fu d l rt p).1).val))]), (vB ((lookG fu d l rt p).2))]) ∧ Mem G X w [arenaC 143 145 S ab l] [] w' := by
 refine Rets.enter 69 _ Try.func97 rfl Try.ntmps97 Try.results97 (by simp) ?_
 refine wR ?_
 refine WL.alloc (c := #[(vS sZ), (vI 0)]) M rfl Try.el41.zero rfl (fun b1 w2 hb1 M => ?_)
 refine wA (vB false) (WL.nil (W.seq' (wR (wM (vP tb) (wP (vB false) (wM (vB false) (wM (vP tb) (wP (vP tb) (wP (Value.pointer (some ⟨tb, 3, none⟩)) (wS (vB fu) rfl (Step.load1 Try.sc4 rfl ((cell_blk (M.rep 0 rfl) 3).trans rfl)) (wP (vB !fu) (wS (vB !fu) rfl (Step.pick (t := false) rfl rfl) (WL.nil ?_)))))))))))))
 refine W.cond (t := !fu) rfl (fun h3 => ?_) (fun h3 => ?_)
 ·
  refine wR (wP (Value.agg #[(vS sZ), (vI 0)]) ?_)
  refine WL.store (v := (Value.agg #[(vS sZ), (vI 0)])) (cs := [(vS sZ), (vI 0)]) (c' := #[(vS sZ), (vI 0)]) M 0 rfl rfl Try.el41.sized rfl rfl rfl rfl (nL rfl) (cC rfl (cC rfl cel_nil)) rfl rfl (fun w4 M => ?_)
  refine wA (vB false) (WL.nil ?_)
  refine W.ret ?_
  refine ⟨.inl rfl, (Value.tuple #[(Value.agg #[(vS sZ), (vI 0)]), (vB false)]), ?_, ?_⟩
  · exact ⟨rfl, (Res.r2 (RV.cellN Try.ag41 rfl (M.blk 0 rfl) rfl) (show RV _ _ _ (.tmp 5) (vB false) from by exact rfl))⟩
  refine ⟨?_, M.close [1] rfl (by decide) trivial⟩
  have hfu_ : fu = false := (by simpa using h3)
  simp [lookG, noHit, hfu_]
 ·
  refine W.skip (wR (wM (vP tb) (wP (vP tb) (wP (Value.pointer (some ⟨tb, 1, none⟩)) (wS (Value.agg #[(vI rt.at_), (vI rt.turn)]) rfl (Step.loadN Try.ag92 rfl (M.rep 0 rfl) (nL rfl) rfl) ?_)))))
  refine WL.alloc (c := #[(vI 0), (vI 0)]) M rfl Try.el92.zero rfl (fun b5 w6 hb5 M => ?_)
  refine WL.store (v := (Value.agg #[(vI rt.at_), (vI rt.turn)])) (cs := [(vI rt.at_), (vI rt.turn)]) (c' := #[(vI rt.at_), (vI rt.turn)]) M 0 rfl rfl Try.el92.sized rfl rfl rfl rfl (nL rfl) (cC rfl (cC rfl cel_nil)) rfl rfl (fun w7 M => ?_)
  refine WL.nil (W.block ?_)
  replace M := M.sel (L' := [bk b5 #[(vI rt.at_), (vI rt.turn)] 92, bk b1 #[(vS sZ), (vI 0)] 41, arenaC 143 145 S ab l]) [0, 1, 2] rfl (by decide)
  refine W.loop (fun kk ρ w' => ∃ (hb_ : Nat) (h_ : Handle) (d_ : Nat) (b_ : THit × Bool), ((lookOk d_ l h_) ∧ (greatT d_ l h_ p b_ = greatT d l rt p noHit) ∧ kk = d_ + 1) ∧ ρ.has [(0, (vP tb)), (1, f), (4, (vP b1)), (5, (vB b_.2)), (6, (vP hb_))] ∧ Mem G X w [bk hb_ #[(vI h_.at_), (vI h_.turn)] 92, bk b1 #[(vS b_.1.key), (vI b_.1.val)] 41, arenaC 143 145 S ab l] [bF tb #[(vP ab), (vI rt.at_), (vI rt.turn), (vB fu), (vI ln)] 94, FnS Try.prog f p]  w') _ ⟨b5, rt, d, noHit, ⟨(hLk (by simpa using h3)), rfl, rfl⟩, ⟨rfl, rfl, rfl, rfl, rfl, rfl, rfl⟩, M⟩ ?_
  rintro _ ρ9 w8 ⟨hb_, h_, d_, b_, ⟨hi10, hi11, rfl⟩, hρ, M⟩
  obtain ⟨ρ9, rfl⟩ := hρ.know
  clear hρ
  have hLk_ : lookOk d_ l h_ := hi10
  have hEq_ : greatT d_ l h_ p b_ = greatT d l rt p noHit := hi11
  obtain ⟨n, hn⟩ : ∃ n, (rget l h_).1 = n := ⟨_, rfl⟩
  obtain ⟨⟨ht1, ht2, ht3⟩, hvl⟩ := lookOk_node hLk_ hn
  refine W.seq' (W.block (wR (wM (vP tb) (wS (Value.agg #[(vI h_.at_), (vI h_.turn)]) rfl (Step.loadN Try.ag92 rfl (M.blk 0 rfl) (nL rfl) rfl) ?_))))
  have fq := M.frm [arenaC 143 145 S ab l] [bk hb_ #[(vI h_.at_), (vI h_.turn)] 92, bk b1 #[(vS b_.1.key), (vI b_.1.val)] 41] [2, 0, 1] rfl
  refine WL.callX rfl (tr_node tb ab rt fu ln l S h_ (by assumption) n hn (M.eF fq ⟨(M.rF fq 0 rfl), trivial⟩)) (CallsF.func Try.en49 rfl) ?_
  rintro _ w15 ⟨kv12, dv13, vv14, rfl, m⟩
  replace M := M.lF fq m
  clear m
  have sl16 : IsSl kv12 := SlAt.isSl (oW (Mem.chunk M 1 rfl).inv)
  have hle17 := SlAt.le' (oW (Mem.chunk M 1 rfl).inv)
  have sl18 : IsSl dv13 := SlAt.isSl (oW (Mem.chunk M 2 rfl).inv)
  have hle19 := SlAt.le' (oW (Mem.chunk M 2 rfl).inv)
  have sl20 : IsSl vv14 := SlAt.isSl (oW (Mem.chunk M 3 rfl).inv)
  have hle21 := SlAt.le' (oW (Mem.chunk M 3 rfl).inv)
  refine WL.alloc (c := #[(vB false), vZ, vZ, vZ]) M rfl Try.el99.zero rfl (fun b22 w23 hb22 M => ?_)
  refine WL.store (v := (Value.agg #[(vB n.leaf), kv12, dv13, vv14])) (cs := [(vB n.leaf), kv12, dv13, vv14]) (c' := #[(vB n.leaf), kv12, dv13, vv14]) M 0 rfl rfl Try.el99.sized rfl rfl rfl rfl (nL rfl) (cC rfl (cC (IsSl.cel sl16) (cC (IsSl.cel sl18) (cC (IsSl.cel sl20) cel_nil)))) rfl rfl (fun w24 M => ?_)
  refine WL.nil (wR (wP (Value.pointer (some ⟨b22, 1, none⟩)) (wS kv12 rfl (Step.load1 Try.sc22 rfl ((M.cell 0 rfl 1).trans rfl)) (wS (vI ↑n.keys.length) rfl (Step.lenSl Try.un22 rfl (oW (M.chunk 2 rfl).inv)) (wA (vI ↑n.keys.length) (WL.nil (W.seq' (W.block ?_))))))))
  refine W.loop (fun kk ρ w' => ∃ (i_ : Nat), ((i_ ≤ n.keys.length) ∧ (∀ j u, i_ ≤ j → n.keys[j]? = some u → p u = false) ∧ kk = i_ + 1) ∧ ρ.has [(0, (vP tb)), (1, f), (4, (vP b1)), (5, (vB b_.2)), (6, (vP hb_)), (7, (vP b22)), (8, (vI ↑i_)), (23, (vP tb)), (24, (Value.agg #[(vI h_.at_), (vI h_.turn)])), (25, (Value.agg #[(vB n.leaf), kv12, dv13, vv14])), (26, (Value.pointer (some ⟨b22, 1, none⟩))), (27, kv12), (28, (vI ↑n.keys.length))] ∧ Mem G X w [bk b22 #[(vB n.leaf), kv12, dv13, vv14] 99, arenaC 143 145 S ab l, oS kv12 n.keys, oH dv13 n.kids, oI vv14 n.vals, bk hb_ #[(vI h_.at_), (vI h_.turn)] 92, bk b1 #[(vS b_.1.key), (vI b_.1.val)] 41] [bF tb #[(vP ab), (vI rt.at_), (vI rt.turn), (vB fu), (vI ln)] 94, FnS Try.prog f p]  w') _ ⟨n.keys.length, ⟨(Nat.le_refl _), (fun j u h hu => absurd (List.getElem?_eq_some_iff.1 hu).1 (by omega)), rfl⟩, ⟨rfl, rfl, rfl, rfl, rfl, rfl, rfl, rfl, rfl, rfl, rfl, rfl, rfl, rfl, rfl⟩, M⟩ ?_
  rintro _ ρ26 w25 ⟨i_, ⟨hi27, hi28, rfl⟩, hρ, M⟩
  obtain ⟨ρ26, rfl⟩ := hρ.know
  clear hρ
  refine W.seq' (wR (wM (vI ↑i_) (wP (vB (decide ((↑i_ : Int) > (0 : Int)))) (wM (vB (decide ((↑i_ : Int) > (0 : Int)))) ?_))))
  rcases Bool.eq_false_or_eq_true (decide ((↑i_ : Int) > (0 : Int))) with h29 | h29
  ·
   have h29p := dT h29
   rw [h29]
   refine wM f (wP (Value.pointer (some ⟨b22, 1, none⟩)) (wS kv12 rfl (Step.load1 Try.sc22 rfl ((M.cell 0 rfl 1).trans rfl)) (wM (vI ↑i_) (wS (vI (↑(i_ - 1))) rfl (Step.cast (congrArg (Value.int .i64) (show ((↑i_ : Int) - 1 : Int) = ↑(i_ - 1) by omega)) (Step.sub rfl rfl (wrap_i64 (by omega)))) ?_))))
   obtain ⟨cap31, hb30⟩ := SlAt.base (oW (M.chunk 2 rfl).inv) (by omega)
   obtain ⟨x32, hx32⟩ := elem_of_lt (xs := n.keys) (i := i_ - 1) (by omega)
   refine wS (vQ kv12 (i_ - 1) 1) rfl (sX (i_ - 1) Try.un22 Try.el9 rfl rfl hb30) (wS (vS x32) rfl (Step.loadE (k := 0) Try.sc9 (flat_ec (oW (M.chunk 2 rfl).inv) hx32 strE_len) (by decide) rfl rfl) ?_)
   refine WL.callV rfl rfl rfl ((M.rep 1 rfl : FnS _ _ _ _) x32) ?_
   rintro _ w33 ⟨rfl, ho⟩
   replace M := M.old ho
   refine wP (vB (!(p x32))) (wS (vB (!(p x32))) rfl (Step.pick (t := true) rfl rfl) (WL.nil ?_))
   refine W.cond (t := !(p x32)) rfl (fun h34 => ?_) (fun h34 => ?_)
   ·
    refine W.skip (W.block (W.region rfl (wM (vI ↑i_) (wS (vI (↑(i_ - 1))) rfl (Step.cast (congrArg (Value.int .i64) (show ((↑i_ : Int) - 1 : Int) = ↑(i_ - 1) by omega)) (Step.sub rfl rfl (wrap_i64 (by omega)))) (wA (vI (↑(i_ - 1))) (WL.nil ?_))))))
    exact ⟨_, (by omega), i_ - 1, ⟨(by omega), (above_step hi28 hx32 (by simpa using h34)), rfl⟩, ⟨rfl, rfl, rfl, rfl, rfl, rfl, rfl, rfl, rfl, rfl, rfl, rfl, rfl, rfl, rfl⟩, M⟩
   ·
    have hfi_ : endI n.keys p = i_ := endI_eq (by omega) hi28 (fun _ => ⟨_, hx32, by simpa using h34⟩)
    have hil_ : 0 < i_ := by omega
    refine W.exit (thn_exit (thn_exit ?_))
    refine inBlk_hit ?_
    refine W.seq' (wR (wM (vI ↑i_) (wS (vB true) rfl (Step.cast (congrArg Value.bool h29) sP) (WL.nil ?_))))
    refine W.cond (t := true) rfl (fun _ => ?_) (fun h => by cases h)
    obtain ⟨cap36, hb35⟩ := SlAt.base (oW (M.chunk 4 rfl).inv) (by omega)
    obtain ⟨x37, hx37⟩ := elem_of_lt (xs := n.vals) (i := i_ - 1) (by omega)
    refine W.drawn M [0, 1, 2, 3, 4, 5, 6, 7, 8, 9, 10, 11, 12, 13, 14] [13] [] _ _ (sY (sY (sY (sY (sY (sY (sN sE))))))) (fun _ h => h) Try.mixed (by kernel_rfl) ?_
    refine tQ (Value.pointer (some ⟨b22, 1, none⟩)) rfl (tR kv12 rfl (fun A w M => (Step.load1 Try.sc22 rfl ((M.cell 1 rfl 1).trans rfl))) (tM (vI ↑i_) rfl (tP (vI (↑(i_ - 1))) rfl (fun w => (Step.cast (congrArg (Value.int .i64) (show ((↑i_ : Int) - 1 : Int) = ↑(i_ - 1) by omega)) (Step.sub rfl rfl (wrap_i64 (by omega))))) (tP (vQ kv12 (i_ - 1) 1) rfl (fun w => (sX (i_ - 1) Try.un22 Try.el9 rfl rfl hb30)) (tR (vS x32) rfl (fun A w M => (Step.loadE (k := 0) Try.sc9 (flat_ec (oW (M.chunk 3 rfl).inv) hx32 strE_len) (by decide) rfl rfl)) (tQ (Value.pointer (some ⟨b22, 3, none⟩)) rfl (tR vv14 rfl (fun A w M => (Step.load1 Try.sc97 rfl ((M.cell 1 rfl 3).trans rfl))) (tM (vI ↑i_) rfl (tP (vI (↑(i_ - 1))) rfl (fun w => (Step.cast (congrArg (Value.int .i64) (show ((↑i_ : Int) - 1 : Int) = ↑(i_ - 1) by omega)) (Step.sub rfl rfl (wrap_i64 (by omega))))) (tP (vQ vv14 (i_ - 1) 1) rfl (fun w => (sX (i_ - 1) Try.un97 Try.el3 rfl rfl hb35)) (tR (vI x37) rfl (fun A w M => (Step.loadE (k := 0) Try.sc3 (flat_ec (oW (M.chunk 5 rfl).inv) hx37 intE_len) (by decide) rfl rfl)) (tQ (Value.agg #[(vS x32), (vI x37)]) rfl ?_))))))))))))
    refine TW.store (v := (Value.agg #[(vS x32), (vI x37)])) (cs := [(vS x32), (vI x37)]) (c' := #[(vS x32), (vI x37)]) 6 rfl rfl (by decide) rfl Try.el41.sized rfl rfl rfl rfl (nL rfl) (cC rfl (cC rfl cel_nil)) rfl rfl (sY (sY (sY (sY (sY (sY (sN sE))))))) (fun r h => h) ?_
    refine tP (vB true) rfl (fun w => (Step.assign rfl)) ?_
    refine TW.done (fun w40 M => ?_)
    refine W.seq' (wR (wP (vP b22) (wS (vB n.leaf) rfl (Step.load1 Try.sc4 rfl ((M.cell 0 rfl 0).trans rfl)) (WL.nil ?_))))
    refine W.cond (t := n.leaf) rfl (fun h41 => ?_) (fun h41 => ?_)
    ·
     have hlf_ : n.leaf = true := h41
     refine wR (wS (Value.agg #[(vS x32), (vI x37)]) rfl (Step.loadN Try.ag41 rfl (M.blk 6 rfl) (nL rfl) rfl) (wM (vB true) ?_))
     refine WL.store (v := (Value.agg #[(vS x32), (vI x37)])) (cs := [(vS x32), (vI x37)]) (c' := #[(vS x32), (vI x37)]) M 6 rfl rfl Try.el41.sized rfl rfl rfl rfl (nL rfl) (cC rfl (cC rfl cel_nil)) rfl rfl (fun w42 M => ?_)
     refine wA (vB true) (WL.nil ?_)
     refine W.ret ?_
     refine ⟨.inl rfl, (Value.tuple #[(Value.agg #[(vS x32), (vI x37)]), (vB true)]), ?_, ?_⟩
     · exact ⟨rfl, (Res.r2 (RV.cellN Try.ag41 rfl (M.blk 6 rfl) rfl) (show RV _ _ _ (.tmp 5) (vB true) from by exact rfl))⟩
     refine ⟨?_, M.close [1] rfl (by decide) trivial⟩
     unfold lookG; rw [if_pos (by simpa using h3), ← hEq_, greatT_leaf hn hlf_, hfi_, if_pos hil_]; try simp [hitOf, List.getD, h3, h29p, hx32, h34, hx37, h41]
    ·
     have hlf_ : n.leaf = false := h41
     obtain ⟨e, rfl, hkl_, hLk2_⟩ := lookOk_kid hLk_ hn hlf_
     refine W.skip (W.region rfl (wP (Value.pointer (some ⟨b22, 2, none⟩)) (wS dv13 rfl (Step.load1 Try.sc96 rfl ((M.cell 0 rfl 2).trans rfl)) (wM (vI ↑i_) ?_))))
     obtain ⟨cap44, hb43⟩ := SlAt.base (oW (M.chunk 3 rfl).inv) (by omega)
     obtain ⟨x45, hx45⟩ := elem_of_lt (xs := n.kids) (i := i_) (by omega)
     have hgd_ : n.kids.getD i_ hdZero = x45 := by rw [List.getD_eq_getElem?_getD, hx45]; rfl
     refine wS (vQ dv13 i_ 2) rfl (sX i_ Try.un96 Try.el92 rfl rfl hb43) (wS (Value.agg #[(vI x45.at_), (vI x45.turn)]) rfl (Step.loadEN (k := 0) (cs' := [(vI x45.at_), (vI x45.turn)]) Try.ag92 (flat_ec (oW (M.chunk 3 rfl).inv) hx45 handleE_len) (by decide) rfl rfl rfl) ?_)
     refine WL.store (v := (Value.agg #[(vI x45.at_), (vI x45.turn)])) (cs := [(vI x45.at_), (vI x45.turn)]) (c' := #[(vI x45.at_), (vI x45.turn)]) M 5 rfl rfl Try.el92.sized rfl rfl rfl rfl (nL rfl) (cC rfl (cC rfl cel_nil)) rfl rfl (fun w46 M => ?_)
     refine WL.nil (wR (wS (Value.agg #[(vI x45.at_), (vI x45.turn)]) rfl (Step.loadN Try.ag92 rfl (M.blk 5 rfl) (nL rfl) rfl) (WL.nil (W.region rfl ?_))))
     refine WL.alloc (c := #[(vI 0), (vI 0)]) M rfl Try.el92.zero rfl (fun b47 w48 hb47 M => ?_)
     refine WL.store (v := (Value.agg #[(vI x45.at_), (vI x45.turn)])) (cs := [(vI x45.at_), (vI x45.turn)]) (c' := #[(vI x45.at_), (vI x45.turn)]) M 0 rfl rfl Try.el92.sized rfl rfl rfl rfl (nL rfl) (cC rfl (cC rfl cel_nil)) rfl rfl (fun w49 M => ?_)
     refine WL.nil ?_
     replace M := M.sel (L' := [bk b47 #[(vI x45.at_), (vI x45.turn)] 92, bk b1 #[(vS x32), (vI x37)] 41, arenaC 143 145 S ab l]) [0, 7, 2] rfl (by decide)
     exact ⟨_, (by omega), b47, x45, e, ((⟨x32, x37⟩ : THit), true), ⟨(hLk2_ _ (List.mem_of_getElem? hx45)), (by rw [← hEq_, greatT_kid hn hlf_, hfi_, hgd_, if_pos hil_]; try simp [hitOf, List.getD, h3, h29p, hx32, h34, hx37, h41, hx45]), rfl⟩, ⟨rfl, rfl, rfl, rfl, rfl, rfl, rfl⟩, M⟩
  ·
   have h29p := dF h29
   have hfi_ : endI n.keys p = i_ := endI_eq (by omega) hi28 (fun h_ => absurd h_ (by omega))
   have hil_ : ¬ 0 < i_ := by omega
   rw [h29]
   refine WL.pass rfl (WL.pass rfl (WL.pass rfl (WL.pass rfl (WL.pass rfl (WL.pass rfl (WL.pass rfl (WL.pass rfl (WL.pass rfl (wS (vB false) rfl (Step.pick (t := false) rfl rfl) (WL.nil ?_))))))))))
   refine W.cond (t := false) rfl (fun h => by cases h) (fun _ => ?_)
   refine W.exit (thn_exit (thn_exit ?_))
   refine inBlk_hit ?_
   refine W.seq' (wR (wM (vI ↑i_) (wS (vB false) rfl (Step.cast (congrArg Value.bool h29) sP) (WL.nil ?_))))
   refine W.cond (t := false) rfl (fun h => by cases h) (fun _ => ?_)
   refine W.skip (W.seq' (wR (wP (vP b22) (wS (vB n.leaf) rfl (Step.load1 Try.sc4 rfl ((M.cell 0 rfl 0).trans rfl)) (WL.nil ?_)))))
   refine W.cond (t := n.leaf) rfl (fun h50 => ?_) (fun h50 => ?_)
   ·
    have hlf_ : n.leaf = true := h50
    refine wR (wS (Value.agg #[(vS b_.1.key), (vI b_.1.val)]) rfl (Step.loadN Try.ag41 rfl (M.blk 6 rfl) (nL rfl) rfl) (wM (vB b_.2) ?_))
    refine WL.store (v := (Value.agg #[(vS b_.1.key), (vI b_.1.val)])) (cs := [(vS b_.1.key), (vI b_.1.val)]) (c' := #[(vS b_.1.key), (vI b_.1.val)]) M 6 rfl rfl Try.el41.sized rfl rfl rfl rfl (nL rfl) (cC rfl (cC rfl cel_nil)) rfl rfl (fun w51 M => ?_)
    refine wA (vB b_.2) (WL.nil ?_)
    refine W.ret ?_
    refine ⟨.inl rfl, (Value.tuple #[(Value.agg #[(vS b_.1.key), (vI b_.1.val)]), (vB b_.2)]), ?_, ?_⟩
    · exact ⟨rfl, (Res.r2 (RV.cellN Try.ag41 rfl (M.blk 6 rfl) rfl) (show RV _ _ _ (.tmp 5) (vB b_.2) from by exact rfl))⟩
    refine ⟨?_, M.close [1] rfl (by decide) trivial⟩
    unfold lookG; rw [if_pos (by simpa using h3), ← hEq_, greatT_leaf hn hlf_, hfi_, if_neg hil_]; try simp [hitOf, List.getD, h3, h29p, h50]
   ·
    have hlf_ : n.leaf = false := h50
    obtain ⟨e, rfl, hkl_, hLk2_⟩ := lookOk_kid hLk_ hn hlf_
    refine W.skip (W.region rfl (wP (Value.pointer (some ⟨b22, 2, none⟩)) (wS dv13 rfl (Step.load1 Try.sc96 rfl ((M.cell 0 rfl 2).trans rfl)) (wM (vI ↑i_) ?_))))
    obtain ⟨cap53, hb52⟩ := SlAt.base (oW (M.chunk 3 rfl).inv) (by omega)
    obtain ⟨x54, hx54⟩ := elem_of_lt (xs := n.kids) (i := i_) (by omega)
    have hgd_ : n.kids.getD i_ hdZero = x54 := by rw [List.getD_eq_getElem?_getD, hx54]; rfl
    refine wS (vQ dv13 i_ 2) rfl (sX i_ Try.un96 Try.el92 rfl rfl hb52) (wS (Value.agg #[(vI x54.at_), (vI x54.turn)]) rfl (Step.loadEN (k := 0) (cs' := [(vI x54.at_), (vI x54.turn)]) Try.ag92 (flat_ec (oW (M.chunk 3 rfl).inv) hx54 handleE_len) (by decide) rfl rfl rfl) ?_)
    refine WL.store (v := (Value.agg #[(vI x54.at_), (vI x54.turn)])) (cs := [(vI x54.at_), (vI x54.turn)]) (c' := #[(vI x54.at_), (vI x54.turn)]) M 5 rfl rfl Try.el92.sized rfl rfl rfl rfl (nL rfl) (cC rfl (cC rfl cel_nil)) rfl rfl (fun w55 M => ?_)
    refine WL.nil (wR (wS (Value.agg #[(vI x54.at_), (vI x54.turn)]) rfl (Step.loadN Try.ag92 rfl (M.blk 5 rfl) (nL rfl) rfl) (WL.nil (W.region rfl ?_))))
    refine WL.alloc (c := #[(vI 0), (vI 0)]) M rfl Try.el92.zero rfl (fun b56 w57 hb56 M => ?_)
    refine WL.store (v := (Value.agg #[(vI x54.at_), (vI x54.turn)])) (cs := [(vI x54.at_), (vI x54.turn)]) (c' := #[(vI x54.at_), (vI x54.turn)]) M 0 rfl rfl Try.el92.sized rfl rfl rfl rfl (nL rfl) (cC rfl (cC rfl cel_nil)) rfl rfl (fun w58 M => ?_)
    refine WL.nil ?_
    replace M := M.sel (L' := [bk b56 #[(vI x54.at_), (vI x54.turn)] 92, bk b1 #[(vS b_.1.key), (vI b_.1.val)] 41, arenaC 143 145 S ab l]) [0, 7, 2] rfl (by decide)
    exact ⟨_, (by omega), b56, x54, e, b_, ⟨(hLk2_ _ (List.mem_of_getElem? hx54)), (by rw [← hEq_, greatT_kid hn hlf_, hfi_, hgd_, if_neg hil_]; try simp [hitOf, List.getD, h3, h29p, h50, hx54]), rfl⟩, ⟨rfl, rfl, rfl, rfl, rfl, rfl, rfl⟩, M⟩
end Go.Proofs
set_option maxRecDepth 100000
namespace Go.Proofs
open Go Tp
theorem Try.en79 : Enters Try.prog 79 := fun _ _ => by kernel_rfl
theorem Try.en80 : Enters Try.prog 80 := fun _ _ => by kernel_rfl
theorem Try.en97 : Enters Try.prog 97 := fun _ _ => by kernel_rfl
theorem Try.en98 : Enters Try.prog 98 := fun _ _ => by kernel_rfl
theorem Try.en102 : Enters Try.prog 102 := fun _ _ => by kernel_rfl
theorem tst_from {G : Nat → Prop} {w : World} (x : ByteArray) (kb : Nat) (k : ByteArray)   (M : Mem G (fun _ => False) w [] [bF kb #[(vS k)] 9] w) : Rets Try.prog 80 #[(vS x), (vP kb)] w fun r w' => r = (vB ((fun (x : ByteArray) => !(sLt x k)) x)) ∧ Mem G (fun _ => False) w [] [] w' := by
 refine Rets.enter 7 _ Try.func80 rfl Try.ntmps80 Try.results80 (by simp) ?_
 refine wR (wA (vB false) (WL.nil (wR (wM (vS x) (wS (vS k) rfl (Step.load1 Try.sc9 rfl ((cell_blk (M.rep 0 rfl) 0).trans rfl)) (wP (vB (!(sLt x k))) (wA (vB (!(sLt x k))) (WL.nil ?_))))))))
 refine W.ret ?_
 refine ⟨.inl rfl, (vB (!(sLt x k))), ?_, ?_⟩
 · exact ⟨rfl, (Res.r1 (show RV _ _ _ (.tmp 3) (vB (!(sLt x k))) from by exact rfl))⟩
 refine ⟨?_, M.close [] rfl (by decide) trivial⟩
 refine congrArg Value.bool ?_
 first | rfl | exact sGt _ _ | exact sLe _ _
theorem tst_after {G : Nat → Prop} {w : World} (x : ByteArray) (kb : Nat) (k : ByteArray)   (M : Mem G (fun _ => False) w [] [bF kb #[(vS k)] 9] w) : Rets Try.prog 102 #[(vS x), (vP kb)] w fun r w' => r = (vB ((fun (x : ByteArray) => sLt k x) x)) ∧ Mem G (fun _ => False) w [] [] w' := by
 refine Rets.enter 7 _ Try.func102 rfl Try.ntmps102 Try.results102 (by simp) ?_
 refine wR (wA (vB false) (WL.nil (wR (wM (vS x) (wS (vS k) rfl (Step.load1 Try.sc9 rfl ((cell_blk (M.rep 0 rfl) 0).trans rfl)) (wP (vB (!(sLt x k || x.toList == k.toList))) (wA (vB (!(sLt x k || x.toList == k.toList))) (WL.nil ?_))))))))
 refine W.ret ?_
 refine ⟨.inl rfl, (vB (!(sLt x k || x.toList == k.toList))), ?_, ?_⟩
 · exact ⟨rfl, (Res.r1 (show RV _ _ _ (.tmp 3) (vB (!(sLt x k || x.toList == k.toList))) from by exact rfl))⟩
 refine ⟨?_, M.close [] rfl (by decide) trivial⟩
 refine congrArg Value.bool ?_
 first | rfl | exact sGt _ _ | exact sLe _ _
theorem tst_before {G : Nat → Prop} {w : World} (x : ByteArray) (kb : Nat) (k : ByteArray)   (M : Mem G (fun _ => False) w [] [bF kb #[(vS k)] 9] w) : Rets Try.prog 98 #[(vS x), (vP kb)] w fun r w' => r = (vB ((fun (x : ByteArray) => sLt x k) x)) ∧ Mem G (fun _ => False) w [] [] w' := by
 refine Rets.enter 7 _ Try.func98 rfl Try.ntmps98 Try.results98 (by simp) ?_
 refine wR (wA (vB false) (WL.nil (wR (wM (vS x) (wS (vS k) rfl (Step.load1 Try.sc9 rfl ((cell_blk (M.rep 0 rfl) 0).trans rfl)) (wP (vB (sLt x k)) (wA (vB (sLt x k)) (WL.nil ?_))))))))
 refine W.ret ?_
 refine ⟨.inl rfl, (vB (sLt x k)), ?_, ?_⟩
 · exact ⟨rfl, (Res.r1 (show RV _ _ _ (.tmp 3) (vB (sLt x k)) from by exact rfl))⟩
 refine ⟨?_, M.close [] rfl (by decide) trivial⟩
 refine congrArg Value.bool ?_
 first | rfl | exact sGt _ _ | exact sLe _ _
theorem tst_last1 {G : Nat → Prop} {w : World} (x : ByteArray)   (M : Mem G (fun _ => False) w [] [] w) : Rets Try.prog 105 #[(vS x)] w fun r w' => r = (vB ((fun (_ : ByteArray) => true) x)) ∧ Mem G (fun _ => False) w [] [] w' := by
 refine Rets.enter 3 _ Try.func105 rfl Try.ntmps105 Try.results105 (by simp) ?_
 refine wR (wA (vB false) (WL.nil (wR (wA (vB true) (WL.nil ?_)))))
 refine W.ret ?_
 refine ⟨.inl rfl, (vB true), ?_, ?_⟩
 · exact ⟨rfl, (Res.r1 (show RV _ _ _ (.tmp 2) (vB true) from by exact rfl))⟩
 refine ⟨?_, M.close [] rfl (by decide) trivial⟩
 refine congrArg Value.bool ?_
 first | rfl | exact sGt _ _ | exact sLe _ _
theorem tr_From {G X : Nat → Prop} {w : World} (tb ab : Nat) (rt : Handle) (fu : Bool) (ln : Int) (l : List RPlace) (S : Nat → Prop) (k : ByteArray)  (hA : SmallA l) (d : Nat) (hLk : fu = true → lookOk d l rt) (M : Mem G X w [arenaC 143 145 S ab l] [bF tb #[(vP ab), (vI rt.at_), (vI rt.turn), (vB fu), (vI ln)] 94] w) : Rets Try.prog 45 #[(vP tb), (vS k)] w fun r w' => r = (Value.tuple #[(Value.agg #[(vS (((lookT fu d l rt (fun (x : ByteArray) => !(sLt x k))).1).key)), (vI (((lookT fu d l rt (fun (x : ByteArray) => !(sLt x k))).1).val))]), (vB ((lookT fu d l rt (fun (x : ByteArray) => !(sLt x k))).2))]) ∧ Mem G X w [arenaC 143 145 S ab l] [] w' := by
 refine Rets.enter 11 _ Try.func45 rfl Try.ntmps45 Try.results45 (by simp) ?_
 refine wR ?_
 refine WL.box (v := (vS k)) (c := #[(vS k)]) M rfl rfl rfl (fun b1 w2 hb1 M => ?_)
 refine WL.alloc (c := #[(vS sZ), (vI 0)]) M rfl Try.el41.zero rfl (fun b3 w4 hb3 M => ?_)
 refine wA (vB false) (WL.nil (wR (wM (vP tb) (wP (Value.func (.func 80) #[] #[(vP b1)]) ?_))))
 have fq := M.frm [arenaC 143 145 S ab l] [bk b3 #[(vS sZ), (vI 0)] 41, bk b1 #[(vS k)] 9] [2, 0, 1] rfl
 refine WL.callX rfl (tr_least tb ab rt fu ln l S (Value.func (.func 80) #[] #[(vP b1)]) (fun (x : ByteArray) => !(sLt x k)) (by assumption) d (by assumption) (M.eF fq ⟨(M.rF fq 0 rfl), ((M.cF fq 1 rfl).imp fun w_ hb_ x_ => RetsV.of_rets Try.en80 rfl (Rets.mono (tst_from x_ b1 k (Mem.law0 ⟨Sh.blk hb_ trivial, trivial⟩)) (fun r_ w2_ h_ => ⟨h_.1, h_.2.mod⟩))), trivial⟩)) (CallsF.func Try.en79 rfl) ?_
 rintro _ w5 ⟨rfl, m⟩
 replace M := M.lF fq m
 clear m
 refine wP (Value.agg #[(vS (((lookT fu d l rt (fun (x : ByteArray) => !(sLt x k))).1).key)), (vI (((lookT fu d l rt (fun (x : ByteArray) => !(sLt x k))).1).val))]) (wP (vB ((lookT fu d l rt (fun (x : ByteArray) => !(sLt x k))).2)) ?_)
 refine WL.store (v := (Value.agg #[(vS (((lookT fu d l rt (fun (x : ByteArray) => !(sLt x k))).1).key)), (vI (((lookT fu d l rt (fun (x : ByteArray) => !(sLt x k))).1).val))])) (cs := [(vS (((lookT fu d l rt (fun (x : ByteArray) => !(sLt x k))).1).key)), (vI (((lookT fu d l rt (fun (x : ByteArray) => !(sLt x k))).1).val))]) (c' := #[(vS (((lookT fu d l rt (fun (x : ByteArray) => !(sLt x k))).1).key)), (vI (((lookT fu d l rt (fun (x : ByteArray) => !(sLt x k))).1).val))]) M 1 rfl rfl Try.el41.sized rfl rfl rfl rfl (nL rfl) (cC rfl (cC rfl cel_nil)) rfl rfl (fun w6 M => ?_)
 refine wA (vB ((lookT fu d l rt (fun (x : ByteArray) => !(sLt x k))).2)) (WL.nil ?_)
 refine W.ret ?_
 refine ⟨.inl rfl, (Value.tuple #[(Value.agg #[(vS (((lookT fu d l rt (fun (x : ByteArray) => !(sLt x k))).1).key)), (vI (((lookT fu d l rt (fun (x : ByteArray) => !(sLt x k))).1).val))]), (vB ((lookT fu d l rt (fun (x : ByteArray) => !(sLt x k))).2))]), ?_, ?_⟩
 · exact ⟨rfl, (Res.r2 (RV.cellN Try.ag41 rfl (M.blk 1 rfl) rfl) (show RV _ _ _ (.tmp 5) (vB ((lookT fu d l rt (fun (x : ByteArray) => !(sLt x k))).2)) from by exact rfl))⟩
 refine ⟨?_, M.close [0] rfl (by decide) trivial⟩
 rfl
theorem tr_After {G X : Nat → Prop} {w : World} (tb ab : Nat) (rt : Handle) (fu : Bool) (ln : Int) (l : List RPlace) (S : Nat → Prop) (k : ByteArray)  (hA : SmallA l) (d : Nat) (hLk : fu = true → lookOk d l rt) (M : Mem G X w [arenaC 143 145 S ab l] [bF tb #[(vP ab), (vI rt.at_), (vI rt.turn), (vB fu), (vI ln)] 94] w) : Rets Try.prog 72 #[(vP tb), (vS k)] w fun r w' => r = (Value.tuple #[(Value.agg #[(vS (((lookT fu d l rt (fun (x : ByteArray) => sLt k x)).1).key)), (vI (((lookT fu d l rt (fun (x : ByteArray) => sLt k x)).1).val))]), (vB ((lookT fu d l rt (fun (x : ByteArray) => sLt k x)).2))]) ∧ Mem G X w [arenaC 143 145 S ab l] [] w' := by
 refine Rets.enter 11 _ Try.func72 rfl Try.ntmps72 Try.results72 (by simp) ?_
 refine wR ?_
 refine WL.box (v := (vS k)) (c := #[(vS k)]) M rfl rfl rfl (fun b1 w2 hb1 M => ?_)
 refine WL.alloc (c := #[(vS sZ), (vI 0)]) M rfl Try.el41.zero rfl (fun b3 w4 hb3 M => ?_)
 refine wA (vB false) (WL.nil (wR (wM (vP tb) (wP (Value.func (.func 102) #[] #[(vP b1)]) ?_))))
 have fq := M.frm [arenaC 143 145 S ab l] [bk b3 #[(vS sZ), (vI 0)] 41, bk b1 #[(vS k)] 9] [2, 0, 1] rfl
 refine WL.callX rfl (tr_least tb ab rt fu ln l S (Value.func (.func 102) #[] #[(vP b1)]) (fun (x : ByteArray) => sLt k x) (by assumption) d (by assumption) (M.eF fq ⟨(M.rF fq 0 rfl), ((M.cF fq 1 rfl).imp fun w_ hb_ x_ => RetsV.of_rets Try.en102 rfl (Rets.mono (tst_after x_ b1 k (Mem.law0 ⟨Sh.blk hb_ trivial, trivial⟩)) (fun r_ w2_ h_ => ⟨h_.1, h_.2.mod⟩))), trivial⟩)) (CallsF.func Try.en79 rfl) ?_
 rintro _ w5 ⟨rfl, m⟩
 replace M := M.lF fq m
 clear m
 refine wP (Value.agg #[(vS (((lookT fu d l rt (fun (x : ByteArray) => sLt k x)).1).key)), (vI (((lookT fu d l rt (fun (x : ByteArray) => sLt k x)).1).val))]) (wP (vB ((lookT fu d l rt (fun (x : ByteArray) => sLt k x)).2)) ?_)
 refine WL.store (v := (Value.agg #[(vS (((lookT fu d l rt (fun (x : ByteArray) => sLt k x)).1).key)), (vI (((lookT fu d l rt (fun (x : ByteArray) => sLt k x)).1).val))])) (cs := [(vS (((lookT fu d l rt (fun (x : ByteArray) => sLt k x)).1).key)), (vI (((lookT fu d l rt (fun (x : ByteArray) => sLt k x)).1).val))]) (c' := #[(vS (((lookT fu d l rt (fun (x : ByteArray) => sLt k x)).1).key)), (vI (((lookT fu d l rt (fun (x : ByteArray) => sLt k x)).1).val))]) M 1 rfl rfl Try.el41.sized rfl rfl rfl rfl (nL rfl) (cC rfl (cC rfl cel_nil)) rfl rfl (fun w6 M => ?_)
 refine wA (vB ((lookT fu d l rt (fun (x : ByteArray) => sLt k x)).2)) (WL.nil ?_)
 refine W.ret ?_
 refine ⟨.inl rfl, (Value.tuple #[(Value.agg #[(vS (((lookT fu d l rt (fun (x : ByteArray) => sLt k x)).1).key)), (vI (((lookT fu d l rt (fun (x : ByteArray) => sLt k x)).1).val))]), (vB ((lookT fu d l rt (fun (x : ByteArray) => sLt k x)).2))]), ?_, ?_⟩
 · exact ⟨rfl, (Res.r2 (RV.cellN Try.ag41 rfl (M.blk 1 rfl) rfl) (show RV _ _ _ (.tmp 5) (vB ((lookT fu d l rt (fun (x : ByteArray) => sLt k x)).2)) from by exact rfl))⟩
 refine ⟨?_, M.close [0] rfl (by decide) trivial⟩
 rfl
theorem tr_Before {G X : Nat → Prop} {w : World} (tb ab : Nat) (rt : Handle) (fu : Bool) (ln : Int) (l : List RPlace) (S : Nat → Prop) (k : ByteArray)  (hA : SmallA l) (d : Nat) (hLk : fu = true → lookOk d l rt) (M : Mem G X w [arenaC 143 145 S ab l] [bF tb #[(vP ab), (vI rt.at_), (vI rt.turn), (vB fu), (vI ln)] 94] w) : Rets Try.prog 60 #[(vP tb), (vS k)] w fun r w' => r = (Value.tuple #[(Value.agg #[(vS (((lookG fu d l rt (fun (x : ByteArray) => sLt x k)).1).key)), (vI (((lookG fu d l rt (fun (x : ByteArray) => sLt x k)).1).val))]), (vB ((lookG fu d l rt (fun (x : ByteArray) => sLt x k)).2))]) ∧ Mem G X w [arenaC 143 145 S ab l] [] w' := by
 refine Rets.enter 11 _ Try.func60 rfl Try.ntmps60 Try.results60 (by simp) ?_
 refine wR ?_
 refine WL.box (v := (vS k)) (c := #[(vS k)]) M rfl rfl rfl (fun b1 w2 hb1 M => ?_)
 refine WL.alloc (c := #[(vS sZ), (vI 0)]) M rfl Try.el41.zero rfl (fun b3 w4 hb3 M => ?_)
 refine wA (vB false) (WL.nil (wR (wM (vP tb) (wP (Value.func (.func 98) #[] #[(vP b1)]) ?_))))
 have fq := M.frm [arenaC 143 145 S ab l] [bk b3 #[(vS sZ), (vI 0)] 41, bk b1 #[(vS k)] 9] [2, 0, 1] rfl
 refine WL.callX rfl (tr_greatest tb ab rt fu ln l S (Value.func (.func 98) #[] #[(vP b1)]) (fun (x : ByteArray) => sLt x k) (by assumption) d (by assumption) (M.eF fq ⟨(M.rF fq 0 rfl), ((M.cF fq 1 rfl).imp fun w_ hb_ x_ => RetsV.of_rets Try.en98 rfl (Rets.mono (tst_before x_ b1 k (Mem.law0 ⟨Sh.blk hb_ trivial, trivial⟩)) (fun r_ w2_ h_ => ⟨h_.1, h_.2.mod⟩))), trivial⟩)) (CallsF.func Try.en97 rfl) ?_
 rintro _ w5 ⟨rfl, m⟩
 replace M := M.lF fq m
 clear m
 refine wP (Value.agg #[(vS (((lookG fu d l rt (fun (x : ByteArray) => sLt x k)).1).key)), (vI (((lookG fu d l rt (fun (x : ByteArray) => sLt x k)).1).val))]) (wP (vB ((lookG fu d l rt (fun (x : ByteArray) => sLt x k)).2)) ?_)
 refine WL.store (v := (Value.agg #[(vS (((lookG fu d l rt (fun (x : ByteArray) => sLt x k)).1).key)), (vI (((lookG fu d l rt (fun (x : ByteArray) => sLt x k)).1).val))])) (cs := [(vS (((lookG fu d l rt (fun (x : ByteArray) => sLt x k)).1).key)), (vI (((lookG fu d l rt (fun (x : ByteArray) => sLt x k)).1).val))]) (c' := #[(vS (((lookG fu d l rt (fun (x : ByteArray) => sLt x k)).1).key)), (vI (((lookG fu d l rt (fun (x : ByteArray) => sLt x k)).1).val))]) M 1 rfl rfl Try.el41.sized rfl rfl rfl rfl (nL rfl) (cC rfl (cC rfl cel_nil)) rfl rfl (fun w6 M => ?_)
 refine wA (vB ((lookG fu d l rt (fun (x : ByteArray) => sLt x k)).2)) (WL.nil ?_)
 refine W.ret ?_
 refine ⟨.inl rfl, (Value.tuple #[(Value.agg #[(vS (((lookG fu d l rt (fun (x : ByteArray) => sLt x k)).1).key)), (vI (((lookG fu d l rt (fun (x : ByteArray) => sLt x k)).1).val))]), (vB ((lookG fu d l rt (fun (x : ByteArray) => sLt x k)).2))]), ?_, ?_⟩
 · exact ⟨rfl, (Res.r2 (RV.cellN Try.ag41 rfl (M.blk 1 rfl) rfl) (show RV _ _ _ (.tmp 5) (vB ((lookG fu d l rt (fun (x : ByteArray) => sLt x k)).2)) from by exact rfl))⟩
 refine ⟨?_, M.close [0] rfl (by decide) trivial⟩
 rfl
end Go.Proofs
set_option maxRecDepth 100000
namespace Go.Proofs
open Go Tp
theorem Try.en45 : Enters Try.prog 45 := fun _ _ => by kernel_rfl
theorem Try.en105 : Enters Try.prog 105 := fun _ _ => by kernel_rfl
theorem tr_Last {G X : Nat → Prop} {w : World} (tb ab : Nat) (rt : Handle) (fu : Bool) (ln : Int) (l : List RPlace) (S : Nat → Prop)  (hA : SmallA l) (d : Nat) (hLk : fu = true → lookOk d l rt) (M : Mem G X w [arenaC 143 145 S ab l] [bF tb #[(vP ab), (vI rt.at_), (vI rt.turn), (vB fu), (vI ln)] 94] w) : Rets Try.prog 78 #[(vP tb)] w fun r w' => r = (Value.tuple #[(Value.agg #[(vS (((lookG fu d l rt (fun (_ : ByteArray) => true)).1).key)), (vI (((lookG fu d l rt (fun (_ : ByteArray) => true)).1).val))]), (vB ((lookG fu d l rt (fun (_ : ByteArray) => true)).2))]) ∧ Mem G X w [arenaC 143 145 S ab l] [] w' := by
 refine Rets.enter 8 _ Try.func78 rfl Try.ntmps78 Try.results78 (by simp) ?_
 refine wR ?_
 refine WL.alloc (c := #[(vS sZ), (vI 0)]) M rfl Try.el41.zero rfl (fun b1 w2 hb1 M => ?_)
 refine wA (vB false) (WL.nil (wR (wM (vP tb) ?_)))
 have fq := M.frm [arenaC 143 145 S ab l] [bk b1 #[(vS sZ), (vI 0)] 41] [1, 0] rfl
 refine WL.callX rfl (tr_greatest tb ab rt fu ln l S (Value.func (.func 105) #[] #[]) (fun (_ : ByteArray) => true) (by assumption) d (by assumption) (M.eF fq ⟨(M.rF fq 0 rfl), (Sh.pure fun w_ x_ => RetsV.of_rets Try.en105 rfl (Rets.mono (tst_last1 x_ (Mem.law0 trivial)) (fun r_ w2_ h_ => ⟨h_.1, h_.2.mod⟩))), trivial⟩)) (CallsF.func Try.en97 rfl) ?_
 rintro _ w3 ⟨rfl, m⟩
 replace M := M.lF fq m
 clear m
 refine wP (Value.agg #[(vS (((lookG fu d l rt (fun (_ : ByteArray) => true)).1).key)), (vI (((lookG fu d l rt (fun (_ : ByteArray) => true)).1).val))]) (wP (vB ((lookG fu d l rt (fun (_ : ByteArray) => true)).2)) ?_)
 refine WL.store (v := (Value.agg #[(vS (((lookG fu d l rt (fun (_ : ByteArray) => true)).1).key)), (vI (((lookG fu d l rt (fun (_ : ByteArray) => true)).1).val))])) (cs := [(vS (((lookG fu d l rt (fun (_ : ByteArray) => true)).1).key)), (vI (((lookG fu d l rt (fun (_ : ByteArray) => true)).1).val))]) (c' := #[(vS (((lookG fu d l rt (fun (_ : ByteArray) => true)).1).key)), (vI (((lookG fu d l rt (fun (_ : ByteArray) => true)).1).val))]) M 1 rfl rfl Try.el41.sized rfl rfl rfl rfl (nL rfl) (cC rfl (cC rfl cel_nil)) rfl rfl (fun w4 M => ?_)
 refine wA (vB ((lookG fu d l rt (fun (_ : ByteArray) => true)).2)) (WL.nil ?_)
 refine W.ret ?_
 refine ⟨.inl rfl, (Value.tuple #[(Value.agg #[(vS (((lookG fu d l rt (fun (_ : ByteArray) => true)).1).key)), (vI (((lookG fu d l rt (fun (_ : ByteArray) => true)).1).val))]), (vB ((lookG fu d l rt (fun (_ : ByteArray) => true)).2))]), ?_, ?_⟩
 · exact ⟨rfl, (Res.r2 (RV.cellN Try.ag41 rfl (M.blk 1 rfl) rfl) (show RV _ _ _ (.tmp 3) (vB ((lookG fu d l rt (fun (_ : ByteArray) => true)).2)) from by exact rfl))⟩
 refine ⟨?_, M.close [0] rfl (by decide) trivial⟩
 rfl
theorem tr_Get {G X : Nat → Prop} {w : World} (tb ab : Nat) (rt : Handle) (fu : Bool) (ln : Int) (l : List RPlace) (S : Nat → Prop) (k : ByteArray)  (hA : SmallA l) (d : Nat) (hLk : fu = true → lookOk d l rt) (M : Mem G X w [arenaC 143 145 S ab l] [bF tb #[(vP ab), (vI rt.at_), (vI rt.turn), (vB fu), (vI ln)] 94] w) : Rets Try.prog 17 #[(vP tb), (vS k)] w fun r w' => r = (Value.tuple #[(vI ((getT fu d l rt k).1)), (vB ((getT fu d l rt k).2))]) ∧ Mem G X w [arenaC 143 145 S ab l] [] w' := by
 refine Rets.enter 24 _ Try.func17 rfl Try.ntmps17 Try.results17 (by simp) ?_
 refine wR (wA (vI 0) (wA (vB false) (WL.nil (wR (wM (vP tb) (wM (vS k) ?_))))))
 have fq := M.frm [arenaC 143 145 S ab l] [] [0] rfl
 refine WL.callX rfl (tr_From tb ab rt fu ln l S k (by assumption) d (by assumption) (M.eF fq ⟨(M.rF fq 0 rfl), trivial⟩)) (CallsF.func Try.en45 rfl) ?_
 rintro _ w1 ⟨rfl, m⟩
 replace M := M.lF fq m
 clear m
 refine wM (Value.tuple #[(Value.agg #[(vS (((lookT fu d l rt (fun (x : ByteArray) => !(sLt x k))).1).key)), (vI (((lookT fu d l rt (fun (x : ByteArray) => !(sLt x k))).1).val))]), (vB ((lookT fu d l rt (fun (x : ByteArray) => !(sLt x k))).2))]) (wP (Value.agg #[(vS (((lookT fu d l rt (fun (x : ByteArray) => !(sLt x k))).1).key)), (vI (((lookT fu d l rt (fun (x : ByteArray) => !(sLt x k))).1).val))]) (wP (vB ((lookT fu d l rt (fun (x : ByteArray) => !(sLt x k))).2)) ?_))
 refine WL.alloc (c := #[(vS sZ), (vI 0)]) M rfl Try.el41.zero rfl (fun b2 w3 hb2 M => ?_)
 refine WL.store (v := (Value.agg #[(vS (((lookT fu d l rt (fun (x : ByteArray) => !(sLt x k))).1).key)), (vI (((lookT fu d l rt (fun (x : ByteArray) => !(sLt x k))).1).val))])) (cs := [(vS (((lookT fu d l rt (fun (x : ByteArray) => !(sLt x k))).1).key)), (vI (((lookT fu d l rt (fun (x : ByteArray) => !(sLt x k))).1).val))]) (c' := #[(vS (((lookT fu d l rt (fun (x : ByteArray) => !(sLt x k))).1).key)), (vI (((lookT fu d l rt (fun (x : ByteArray) => !(sLt x k))).1).val))]) M 0 rfl rfl Try.el41.sized rfl rfl rfl rfl (nL rfl) (cC rfl (cC rfl cel_nil)) rfl rfl (fun w4 M => ?_)
 refine wA (vB ((lookT fu d l rt (fun (x : ByteArray) => !(sLt x k))).2)) (WL.nil (W.seq' (wR (wM (vB ((lookT fu d l rt (fun (x : ByteArray) => !(sLt x k))).2)) (wP (vB (!((lookT fu d l rt (fun (x : ByteArray) => !(sLt x k))).2))) (wM (vB (!((lookT fu d l rt (fun (x : ByteArray) => !(sLt x k))).2))) ?_))))))
 rcases Bool.eq_false_or_eq_true (!((lookT fu d l rt (fun (x : ByteArray) => !(sLt x k))).2)) with h5 | h5
 ·
  rw [h5]
  refine WL.pass rfl (WL.pass rfl (WL.pass rfl (WL.pass rfl (wS (vB true) rfl (Step.pick (t := true) rfl rfl) (WL.nil ?_)))))
  refine W.cond (t := true) rfl (fun _ => ?_) (fun h => by cases h)
  refine wR (wA (vI 0) (wA (vB false) (WL.nil ?_)))
  refine W.ret ?_
  refine ⟨.inl rfl, (Value.tuple #[(vI 0), (vB false)]), ?_, ?_⟩
  · exact ⟨rfl, (Res.r2 (show RV _ _ _ (.tmp 4) (vI 0) from by exact rfl) (show RV _ _ _ (.tmp 5) (vB false) from by exact rfl))⟩
  refine ⟨?_, M.close [1] rfl (by decide) trivial⟩
  unfold getT
  simp only [sEq_dec] at *
  simp_all
 ·
  rw [h5]
  refine wP (vP b2) (wS (vS (((lookT fu d l rt (fun (x : ByteArray) => !(sLt x k))).1).key)) rfl (Step.load1 Try.sc9 rfl ((M.cell 0 rfl 0).trans rfl)) (wM (vS k) (wP (vB (!((((lookT fu d l rt (fun (x : ByteArray) => !(sLt x k))).1).key).toList == k.toList))) (wS (vB (!((((lookT fu d l rt (fun (x : ByteArray) => !(sLt x k))).1).key).toList == k.toList))) rfl (Step.pick (t := false) rfl rfl) (WL.nil ?_)))))
  refine W.cond (t := !((((lookT fu d l rt (fun (x : ByteArray) => !(sLt x k))).1).key).toList == k.toList)) rfl (fun h6 => ?_) (fun h6 => ?_)
  ·
   refine wR (wA (vI 0) (wA (vB false) (WL.nil ?_)))
   refine W.ret ?_
   refine ⟨.inl rfl, (Value.tuple #[(vI 0), (vB false)]), ?_, ?_⟩
   · exact ⟨rfl, (Res.r2 (show RV _ _ _ (.tmp 4) (vI 0) from by exact rfl) (show RV _ _ _ (.tmp 5) (vB false) from by exact rfl))⟩
   refine ⟨?_, M.close [1] rfl (by decide) trivial⟩
   unfold getT
   simp only [sEq_dec] at *
   simp_all
  ·
   refine W.skip (wR (wP (Value.pointer (some ⟨b2, 1, none⟩)) (wS (vI (((lookT fu d l rt (fun (x : ByteArray) => !(sLt x k))).1).val)) rfl (Step.load1 Try.sc3 rfl ((M.cell 0 rfl 1).trans rfl)) (wA (vI (((lookT fu d l rt (fun (x : ByteArray) => !(sLt x k))).1).val)) (wA (vB true) (WL.nil ?_))))))
   refine W.ret ?_
   refine ⟨.inl rfl, (Value.tuple #[(vI (((lookT fu d l rt (fun (x : ByteArray) => !(sLt x k))).1).val)), (vB true)]), ?_, ?_⟩
   · exact ⟨rfl, (Res.r2 (show RV _ _ _ (.tmp 4) (vI (((lookT fu d l rt (fun (x : ByteArray) => !(sLt x k))).1).val)) from by exact rfl) (show RV _ _ _ (.tmp 5) (vB true) from by exact rfl))⟩
   refine ⟨?_, M.close [1] rfl (by decide) trivial⟩
   unfold getT
   simp only [sEq_dec] at *
   simp_all
end Go.Proofs
namespace Tp
open Go
def delR (d : Nat) (l : List RPlace) (r : Handle) (fu : Bool) (ln : Int) (k : ByteArray) : (List RPlace × Handle) × Bool × Int := if (getT fu d l r k).2 then delT d l r fu ln k else ((l, r), fu, ln)
structure DelOk (d : Nat) (l : List RPlace) (r : Handle) (k : ByteArray) : Prop where
  rem : remOk d l r k
  small : SmallA (remF d l r k)
  kids : (rget (remF d l r k) r).1.leaf = false → 1 ≤ (rget (remF d l r k) r).1.kids.length
section
variable {l l1 : List RPlace} {d : Nat} {r c : Handle} {fu : Bool} {ln : Int} {k : ByteArray} {n : Nd}
theorem getT_no (h : (getT fu d l r k).2 = false) : (getT fu d l r k).1 = 0 := by
  unfold getT at *
  split at h
  · cases h
  · rename_i h2; rw [if_neg h2]
theorem delR_no (h : (getT fu d l r k).2 = false) : delR d l r fu ln k = ((l, r), fu, ln) := by unfold delR; simp [h]
theorem delR_keep (h : (getT fu d l r k).2 = true) (h1 : remF d l r k = l1) (hn : (rget l1 r).1 = n) (h0 : ¬ n.keys.length = 0) : delR d l r fu ln k = ((l1, r), fu, ln - 1) := by
  subst h1; subst hn; unfold delR delT; rw [if_pos h]; simp only; rw [if_neg h0]
theorem delR_leaf (h : (getT fu d l r k).2 = true) (h1 : remF d l r k = l1) (hn : (rget l1 r).1 = n) (h0 : n.keys.length = 0) (hl : n.leaf = true) : delR d l r fu ln k = (((rfree l1 [r]).1, r), false, ln - 1) := by
  subst h1; subst hn; unfold delR delT; rw [if_pos h]; simp only; rw [if_pos h0, hl]; simp
theorem delR_kid (h : (getT fu d l r k).2 = true) (h1 : remF d l r k = l1) (hn : (rget l1 r).1 = n) (h0 : n.keys.length = 0) (hl : n.leaf = false) (hc : n.kids.getD 0 hdZero = c) : delR d l r fu ln k = (((rfree l1 [r]).1, c), true, ln - 1) := by
  subst h1; subst hn; subst hc; unfold delR delT; rw [if_pos h]; simp only; rw [if_pos h0, hl]; simp
end
end Tp
set_option maxRecDepth 100000
namespace Go.Proofs
open Go Tp
theorem Try.en17 : Enters Try.prog 17 := fun _ _ => by kernel_rfl
set_option maxHeartbeats 1000000 in
theorem tab_delete {G X : Nat → Prop} {w : World} (tb ab : Nat) (rt : Handle) (fu : Bool) (ln : Int) (l : List RPlace) (S : Nat → Prop) (k : ByteArray)  (hA : SmallA l) (d : Nat) (hLk : fu = true → lookOk d l rt) (hDel : (getT fu d l rt k).2 = true → DelOk d l rt k) (hln : 0 ≤ ln ∧ ln ≤ 1000000) (M : Mem G X w [bk tb #[(vP ab), (vI rt.at_), (vI rt.turn), (vB fu), (vI ln)] 94, arenaC 143 145 S ab l] [] w) : Rets Try.prog 19 #[(vP tb), (vS k)] w fun r w' => ∃ (S' : Nat → Prop), r = (Value.tuple #[(vI ((getT fu d l rt k).1)), (vB ((getT fu d l rt k).2))]) ∧ Mem G X w [bk tb #[(vP ab), (vI (((delR d l rt fu ln k).1.2).at_)), (vI (((delR d l rt fu ln k).1.2).turn)), (vB ((delR d l rt fu ln k).2.1)), (vI ((delR d l rt fu ln k).2.2))] 94, arenaC 143 145 S' ab ((delR d l rt fu ln k).1.1)] [] w' := by
 refine Rets.enter 71 _ Try.func19 rfl Try.ntmps19 Try.results19 (by simp) ?_
 refine wR (wA (vI 0) (wA (vB false) (WL.nil (wR (wM (vP tb) (wM (vS k) ?_))))))
 have fq := M.frm [arenaC 143 145 S ab l] [bk tb #[(vP ab), (vI rt.at_), (vI rt.turn), (vB fu), (vI ln)] 94] [1, 0] rfl
 refine WL.callX rfl (tr_Get tb ab rt fu ln l S k (by assumption) d (by assumption) (M.eF fq ⟨(M.cF fq 0 rfl), trivial⟩)) (CallsF.func Try.en17 rfl) ?_
 rintro _ w1 ⟨rfl, m⟩
 replace M := M.lF fq m
 clear m
 refine wM (Value.tuple #[(vI ((getT fu d l rt k).1)), (vB ((getT fu d l rt k).2))]) (wP (vI ((getT fu d l rt k).1)) (wP (vB ((getT fu d l rt k).2)) (wA (vI ((getT fu d l rt k).1)) (wA (vB ((getT fu d l rt k).2)) (WL.nil (W.seq' (wR (wM (vB ((getT fu d l rt k).2)) (wP (vB (!((getT fu d l rt k).2))) (WL.nil ?_))))))))))
 refine W.cond (t := !((getT fu d l rt k).2)) rfl (fun h2 => ?_) (fun h2 => ?_)
 ·
  have hth_ : (getT fu d l rt k).2 = false := by simpa using h2
  refine wR (wA (vI 0) (wA (vB false) (WL.nil ?_)))
  refine W.ret ?_
  refine ⟨.inl rfl, (Value.tuple #[(vI 0), (vB false)]), ?_, ?_⟩
  · exact ⟨rfl, (Res.r2 (show RV _ _ _ (.tmp 4) (vI 0) from by exact rfl) (show RV _ _ _ (.tmp 5) (vB false) from by exact rfl))⟩
  have hg0_ : (getT fu d l rt k).1 = 0 := getT_no hth_
  have e3 : (bk tb #[(vP ab), (vI (((delR d l rt fu ln k).1.2).at_)), (vI (((delR d l rt fu ln k).1.2).turn)), (vB ((delR d l rt fu ln k).2.1)), (vI ((delR d l rt fu ln k).2.2))] 94 : Chunk) = (bk tb #[(vP ab), (vI rt.at_), (vI rt.turn), (vB fu), (vI ln)] 94 : Chunk) := by
   rw [delR_no hth_]
  replace M := M.rechunk 1 (c' := bk tb #[(vP ab), (vI (((delR d l rt fu ln k).1.2).at_)), (vI (((delR d l rt fu ln k).1.2).turn)), (vB ((delR d l rt fu ln k).2.1)), (vI ((delR d l rt fu ln k).2.2))] 94) rfl e3.symm
  have e4 : (delR d l rt fu ln k).1.1 = l := by
   rw [delR_no hth_]
  replace M := M.rechunk 0 (c' := arenaC 143 145 S ab ((delR d l rt fu ln k).1.1)) rfl (congrArg (fun z => arenaC 143 145 S ab z) e4.symm)
  refine ⟨S, ?_, M.close [1, 0] rfl (by decide) trivial⟩
  simp [hg0_, hth_]
 ·
  have hth_ : (getT fu d l rt k).2 = true := by simpa using h2
  obtain ⟨hO, hS, hKd⟩ := hDel hth_
  refine W.skip (wR (wM (vP tb) (wM (vP tb) (wP (vP tb) (wP (Value.pointer (some ⟨tb, 1, none⟩)) (wS (Value.agg #[(vI rt.at_), (vI rt.turn)]) rfl (Step.loadN Try.ag92 rfl (M.blk 1 rfl) (nL rfl) rfl) (wM (vS k) ?_)))))))
  have fq := M.frm [arenaC 143 145 S ab l] [bk tb #[(vP ab), (vI rt.at_), (vI rt.turn), (vB fu), (vI ln)] 94] [0, 1] rfl
  refine WL.callX rfl (tr_remove d tb ab rt fu ln l S rt k (by assumption) (M.eF fq ⟨(M.cF fq 0 rfl), trivial⟩)) (CallsF.func Try.en48 rfl) ?_
  rintro _ w6 ⟨S5, rfl, m⟩
  replace M := M.lF fq m
  clear m
  refine WL.nil (W.seq' ?_)
  obtain ⟨l1_, hl1_⟩ : ∃ q, (remF d l rt k) = q := ⟨_, rfl⟩
  rw [hl1_] at hS hKd
  replace M := M.rechunk 0 (c' := arenaC 143 145 S5 ab l1_) rfl (by rw [hl1_])
  refine W.region rfl (wM (vP tb) (wP (vP tb) (wP (Value.pointer (some ⟨tb, 4, none⟩)) (wS (vI ln) rfl (Step.load1 Try.sc3 rfl ((M.cell 1 rfl 4).trans rfl)) (wS (vI ((ln : Int) - 1)) rfl (Step.sub rfl rfl (wrap_i64 (by omega))) (wP (vP tb) (wP (Value.pointer (some ⟨tb, 4, none⟩)) ?_)))))))
  refine WL.store (v := (vI ((ln : Int) - 1))) (cs := [(vI ((ln : Int) - 1))]) (c' := #[(vP ab), (vI rt.at_), (vI rt.turn), (vB fu), (vI ((ln : Int) - 1))]) M 1 rfl rfl Try.el3.sized rfl rfl rfl rfl (nL rfl) (cC rfl cel_nil) rfl rfl (fun w7 M => ?_)
  refine WL.nil (W.seq' (wR (wM (vP tb) (wM (vP tb) (wP (vP tb) (wP (Value.pointer (some ⟨tb, 1, none⟩)) (wS (Value.agg #[(vI rt.at_), (vI rt.turn)]) rfl (Step.loadN Try.ag92 rfl (M.blk 1 rfl) (nL rfl) rfl) ?_)))))))
  obtain ⟨n, hn⟩ : ∃ n, (rget l1_ rt).1 = n := ⟨_, rfl⟩
  rw [hn] at hKd
  have fq := M.frm [arenaC 143 145 S5 ab l1_] [bk tb #[(vP ab), (vI rt.at_), (vI rt.turn), (vB fu), (vI ((ln : Int) - 1))] 94] [0, 1] rfl
  refine WL.callX rfl (tr_node tb ab rt fu ((ln : Int) - 1) l1_ S5 rt (by assumption) n hn (M.eF fq ⟨(M.cF fq 0 rfl), trivial⟩)) (CallsF.func Try.en49 rfl) ?_
  rintro _ w11 ⟨kv8, dv9, vv10, rfl, m⟩
  replace M := M.lF fq m
  clear m
  have sl12 : IsSl kv8 := SlAt.isSl (oW (Mem.chunk M 1 rfl).inv)
  have hle13 := SlAt.le' (oW (Mem.chunk M 1 rfl).inv)
  have sl14 : IsSl dv9 := SlAt.isSl (oW (Mem.chunk M 2 rfl).inv)
  have hle15 := SlAt.le' (oW (Mem.chunk M 2 rfl).inv)
  have sl16 : IsSl vv10 := SlAt.isSl (oW (Mem.chunk M 3 rfl).inv)
  have hle17 := SlAt.le' (oW (Mem.chunk M 3 rfl).inv)
  refine WL.alloc (c := #[(vB false), vZ, vZ, vZ]) M rfl Try.el99.zero rfl (fun b18 w19 hb18 M => ?_)
  refine WL.store (v := (Value.agg #[(vB n.leaf), kv8, dv9, vv10])) (cs := [(vB n.leaf), kv8, dv9, vv10]) (c' := #[(vB n.leaf), kv8, dv9, vv10]) M 0 rfl rfl Try.el99.sized rfl rfl rfl rfl (nL rfl) (cC rfl (cC (IsSl.cel sl12) (cC (IsSl.cel sl14) (cC (IsSl.cel sl16) cel_nil)))) rfl rfl (fun w20 M => ?_)
  refine WL.nil (wR (wP (Value.pointer (some ⟨b18, 1, none⟩)) (wS kv8 rfl (Step.load1 Try.sc22 rfl ((M.cell 0 rfl 1).trans rfl)) (wS (vI ↑n.keys.length) rfl (Step.lenSl Try.un22 rfl (oW (M.chunk 2 rfl).inv)) (wP (vB ((↑n.keys.length : Int) == (0 : Int))) (WL.nil ?_))))))
  refine W.cond (t := (↑n.keys.length : Int) == (0 : Int)) rfl (fun h21 => ?_) (fun h21 => ?_)
  ·
   have h21p : (↑n.keys.length : Int) = (0 : Int) := by simpa using h21
   refine wR (wM (vP tb) (wP (vP tb) (wP (Value.pointer (some ⟨tb, 1, none⟩)) (wS (Value.agg #[(vI rt.at_), (vI rt.turn)]) rfl (Step.loadN Try.ag92 rfl (M.blk 5 rfl) (nL rfl) rfl) ?_))))
   refine WL.alloc (c := #[(vI 0), (vI 0)]) M rfl Try.el92.zero rfl (fun b22 w23 hb22 M => ?_)
   refine WL.store (v := (Value.agg #[(vI rt.at_), (vI rt.turn)])) (cs := [(vI rt.at_), (vI rt.turn)]) (c' := #[(vI rt.at_), (vI rt.turn)]) M 0 rfl rfl Try.el92.sized rfl rfl rfl rfl (nL rfl) (cC rfl (cC rfl cel_nil)) rfl rfl (fun w24 M => ?_)
   refine WL.nil (W.seq' (wR (wM (vP tb) (wP (vP b18) (wS (vB n.leaf) rfl (Step.load1 Try.sc4 rfl ((M.cell 1 rfl 0).trans rfl)) (wP (vB !n.leaf) (wP (vP tb) (wP (Value.pointer (some ⟨tb, 3, none⟩)) ?_))))))))
   refine WL.store (v := (vB !n.leaf)) (cs := [(vB !n.leaf)]) (c' := #[(vP ab), (vI rt.at_), (vI rt.turn), (vB !n.leaf), (vI ((ln : Int) - 1))]) M 6 rfl rfl Try.el4.sized rfl rfl rfl rfl (nL rfl) (cC rfl cel_nil) rfl rfl (fun w25 M => ?_)
   refine WL.nil (wR (wM (vP tb) (wP (vP tb) (wP (Value.pointer (some ⟨tb, 3, none⟩)) (wS (vB !n.leaf) rfl (Step.load1 Try.sc4 rfl ((M.cell 6 rfl 3).trans rfl)) (WL.nil ?_))))))
   refine W.cond (t := !n.leaf) rfl (fun h26 => ?_) (fun h26 => ?_)
   ·
    have hlf_ : n.leaf = false := by simpa using h26
    have hk1_ := hKd hlf_
    refine W.region rfl (wM (vP tb) (wP (Value.pointer (some ⟨b18, 2, none⟩)) (wS dv9 rfl (Step.load1 Try.sc96 rfl ((M.cell 1 rfl 2).trans rfl)) ?_)))
    obtain ⟨cap28, hb27⟩ := SlAt.base (oW (M.chunk 4 rfl).inv) (by omega)
    obtain ⟨x29, hx29⟩ := elem_of_lt (xs := n.kids) (i := 0) (by omega)
    have hgd_ : n.kids.getD 0 hdZero = x29 := by rw [List.getD_eq_getElem?_getD, hx29]; rfl
    refine wS (vQ dv9 0 2) rfl (sX 0 Try.un96 Try.el92 rfl rfl hb27 rfl) (wS (Value.agg #[(vI x29.at_), (vI x29.turn)]) rfl (Step.loadEN (k := 0) (cs' := [(vI x29.at_), (vI x29.turn)]) Try.ag92 (flat_ec (oW (M.chunk 4 rfl).inv) hx29 handleE_len) (by decide) rfl rfl rfl) (wP (vP tb) (wP (Value.pointer (some ⟨tb, 1, none⟩)) ?_)))
    refine WL.store (v := (Value.agg #[(vI x29.at_), (vI x29.turn)])) (cs := [(vI x29.at_), (vI x29.turn)]) (c' := #[(vP ab), (vI x29.at_), (vI x29.turn), (vB !n.leaf), (vI ((ln : Int) - 1))]) M 6 rfl rfl Try.el92.sized rfl rfl rfl rfl (nL rfl) (cC rfl (cC rfl cel_nil)) rfl rfl (fun w30 M => ?_)
    refine WL.nil ?_
    replace M := M.loseI 5
    replace M := M.loseI 4
    replace M := M.loseI 3
    replace M := M.loseI 1
    refine W.drawn M [0, 1, 2, 3, 4, 5, 6] [6] [5] _ _ (sY (sN (sY sE))) (fun _ h => h) Try.mixed (by kernel_rfl) ?_
    refine tM (vP tb) rfl (tQ (vP tb) rfl (tQ (vP tb) rfl (tR (vP ab) rfl (fun A w M => (Step.load1 Try.sc90 rfl ((M.cell 2 rfl 0).trans rfl))) (tR (Value.agg #[(vI rt.at_), (vI rt.turn)]) rfl (fun A w M => (Step.loadN Try.ag92 rfl (M.blk 1 rfl) (nL rfl) rfl)) ?_))))
    refine TW.new (obj := .cells #[(vI rt.at_), (vI rt.turn)] 92) (fun b => .slice (some ⟨b, 0, none⟩) 1 1) rfl (by decide) (by decide) rfl (fun w => Step.make (by kernel_rfl)) (fun b37 => ?_)
    let Q : List Chunk := [bk b37 #[(vI rt.at_), (vI rt.turn)] 92, bk b22 #[(vI rt.at_), (vI rt.turn)] 92, bk tb #[(vP ab), (vI x29.at_), (vI x29.turn), (vB !n.leaf), (vI ((ln : Int) - 1))] 94]
    refine TW.callX (ι := (Nat → Prop)) (fun jx v_ => v_ = (vI ((rfree l1_ ([rt] : List Handle)).2))) (fun jx => arenaC 143 145 jx ab ((rfree l1_ ([rt] : List Handle)).1) :: Q) (fun jx => []) rfl (by decide) rfl (fun jx => (sN (sN (sY (sY sE))))) (fun jx r h => h) (fun A w M => have fq := M.frm [arenaC 143 145 S5 ab l1_] (fl A :: Q) [3, 0, 1, 2, 4] rfl; Rets.mono (ar_free ab l1_ S5 (Value.slice (some ⟨b37, 0, none⟩) 1 1) ([rt] : List Handle) (by assumption) (M.eF fq ⟨((M.cF fq 1 rfl).imp fun _ h => SlAt.of_blk (n := 1) (size := 2) h rfl (by decide)), trivial⟩)) (fun v_ w_ ⟨S38, e_, m⟩ => ⟨S38, e_, (M.lF fq m).sel [1, 0, 2, 3, 4] rfl (by decide), fun b hb => M.kF fq m b hb⟩)) (fun w => CallsF.func Try.en50 rfl) (fun S38 v hp hin => ?_)
    replace hp := hp.symm; subst hp
    obtain ⟨_, _, hin⟩ := hin
    clear hin
    refine TW.done (fun w39 M => ?_)
    refine wR (wM (vI ((getT fu d l rt k).1)) (wA (vI ((getT fu d l rt k).1)) (wA (vB true) (WL.nil ?_))))
    refine W.ret ?_
    refine ⟨.inl rfl, (Value.tuple #[(vI ((getT fu d l rt k).1)), (vB true)]), ?_, ?_⟩
    · exact ⟨rfl, (Res.r2 (show RV _ _ _ (.tmp 4) (vI ((getT fu d l rt k).1)) from by exact rfl) (show RV _ _ _ (.tmp 5) (vB true) from by exact rfl))⟩
    have e40 : (bk tb #[(vP ab), (vI (((delR d l rt fu ln k).1.2).at_)), (vI (((delR d l rt fu ln k).1.2).turn)), (vB ((delR d l rt fu ln k).2.1)), (vI ((delR d l rt fu ln k).2.2))] 94 : Chunk) = (bk tb #[(vP ab), (vI x29.at_), (vI x29.turn), (vB !n.leaf), (vI ((ln : Int) - 1))] 94 : Chunk) := by
     rw [delR_kid hth_ hl1_ hn (by omega) hlf_ hgd_]; simp [hlf_]
    replace M := M.rechunk 3 (c' := bk tb #[(vP ab), (vI (((delR d l rt fu ln k).1.2).at_)), (vI (((delR d l rt fu ln k).1.2).turn)), (vB ((delR d l rt fu ln k).2.1)), (vI ((delR d l rt fu ln k).2.2))] 94) rfl e40.symm
    have e41 : (delR d l rt fu ln k).1.1 = (rfree l1_ ([rt] : List Handle)).1 := by
     rw [delR_kid hth_ hl1_ hn (by omega) hlf_ hgd_]
    replace M := M.rechunk 0 (c' := arenaC 143 145 S38 ab ((delR d l rt fu ln k).1.1)) rfl (congrArg (fun z => arenaC 143 145 S38 ab z) e41.symm)
    refine ⟨S38, ?_, M.close [3, 0] rfl (by decide) trivial⟩
    rw [hth_]
   ·
    have hlf_ : n.leaf = true := by simpa using h26
    refine W.skip ?_
    replace M := M.loseI 5
    replace M := M.loseI 4
    replace M := M.loseI 3
    replace M := M.loseI 1
    refine W.drawn M [0, 1, 2, 3, 4, 5, 6] [6] [5] _ _ (sY (sN (sY sE))) (fun _ h => h) Try.mixed (by kernel_rfl) ?_
    refine tM (vP tb) rfl (tQ (vP tb) rfl (tQ (vP tb) rfl (tR (vP ab) rfl (fun A w M => (Step.load1 Try.sc90 rfl ((M.cell 2 rfl 0).trans rfl))) (tR (Value.agg #[(vI rt.at_), (vI rt.turn)]) rfl (fun A w M => (Step.loadN Try.ag92 rfl (M.blk 1 rfl) (nL rfl) rfl)) ?_))))
    refine TW.new (obj := .cells #[(vI rt.at_), (vI rt.turn)] 92) (fun b => .slice (some ⟨b, 0, none⟩) 1 1) rfl (by decide) (by decide) rfl (fun w => Step.make (by kernel_rfl)) (fun b48 => ?_)
    let Q : List Chunk := [bk b48 #[(vI rt.at_), (vI rt.turn)] 92, bk b22 #[(vI rt.at_), (vI rt.turn)] 92, bk tb #[(vP ab), (vI rt.at_), (vI rt.turn), (vB !n.leaf), (vI ((ln : Int) - 1))] 94]
    refine TW.callX (ι := (Nat → Prop)) (fun jx v_ => v_ = (vI ((rfree l1_ ([rt] : List Handle)).2))) (fun jx => arenaC 143 145 jx ab ((rfree l1_ ([rt] : List Handle)).1) :: Q) (fun jx => []) rfl (by decide) rfl (fun jx => (sN (sN (sY (sY sE))))) (fun jx r h => h) (fun A w M => have fq := M.frm [arenaC 143 145 S5 ab l1_] (fl A :: Q) [3, 0, 1, 2, 4] rfl; Rets.mono (ar_free ab l1_ S5 (Value.slice (some ⟨b48, 0, none⟩) 1 1) ([rt] : List Handle) (by assumption) (M.eF fq ⟨((M.cF fq 1 rfl).imp fun _ h => SlAt.of_blk (n := 1) (size := 2) h rfl (by decide)), trivial⟩)) (fun v_ w_ ⟨S49, e_, m⟩ => ⟨S49, e_, (M.lF fq m).sel [1, 0, 2, 3, 4] rfl (by decide), fun b hb => M.kF fq m b hb⟩)) (fun w => CallsF.func Try.en50 rfl) (fun S49 v hp hin => ?_)
    replace hp := hp.symm; subst hp
    obtain ⟨_, _, hin⟩ := hin
    clear hin
    refine TW.done (fun w50 M => ?_)
    refine wR (wM (vI ((getT fu d l rt k).1)) (wA (vI ((getT fu d l rt k).1)) (wA (vB true) (WL.nil ?_))))
    refine W.ret ?_
    refine ⟨.inl rfl, (Value.tuple #[(vI ((getT fu d l rt k).1)), (vB true)]), ?_, ?_⟩
    · exact ⟨rfl, (Res.r2 (show RV _ _ _ (.tmp 4) (vI ((getT fu d l rt k).1)) from by exact rfl) (show RV _ _ _ (.tmp 5) (vB true) from by exact rfl))⟩
    have e51 : (bk tb #[(vP ab), (vI (((delR d l rt fu ln k).1.2).at_)), (vI (((delR d l rt fu ln k).1.2).turn)), (vB ((delR d l rt fu ln k).2.1)), (vI ((delR d l rt fu ln k).2.2))] 94 : Chunk) = (bk tb #[(vP ab), (vI rt.at_), (vI rt.turn), (vB !n.leaf), (vI ((ln : Int) - 1))] 94 : Chunk) := by
     rw [delR_leaf hth_ hl1_ hn (by omega) hlf_]; simp [hlf_]
    replace M := M.rechunk 3 (c' := bk tb #[(vP ab), (vI (((delR d l rt fu ln k).1.2).at_)), (vI (((delR d l rt fu ln k).1.2).turn)), (vB ((delR d l rt fu ln k).2.1)), (vI ((delR d l rt fu ln k).2.2))] 94) rfl e51.symm
    have e52 : (delR d l rt fu ln k).1.1 = (rfree l1_ ([rt] : List Handle)).1 := by
     rw [delR_leaf hth_ hl1_ hn (by omega) hlf_]
    replace M := M.rechunk 0 (c' := arenaC 143 145 S49 ab ((delR d l rt fu ln k).1.1)) rfl (congrArg (fun z => arenaC 143 145 S49 ab z) e52.symm)
    refine ⟨S49, ?_, M.close [3, 0] rfl (by decide) trivial⟩
    rw [hth_]
  ·
   have h21p : ¬ (↑n.keys.length : Int) = (0 : Int) := by simpa using h21
   refine W.skip (wR (wM (vI ((getT fu d l rt k).1)) (wA (vI ((getT fu d l rt k).1)) (wA (vB true) (WL.nil ?_)))))
   refine W.ret ?_
   refine ⟨.inl rfl, (Value.tuple #[(vI ((getT fu d l rt k).1)), (vB true)]), ?_, ?_⟩
   · exact ⟨rfl, (Res.r2 (show RV _ _ _ (.tmp 4) (vI ((getT fu d l rt k).1)) from by exact rfl) (show RV _ _ _ (.tmp 5) (vB true) from by exact rfl))⟩
   have e53 : (bk tb #[(vP ab), (vI (((delR d l rt fu ln k).1.2).at_)), (vI (((delR d l rt fu ln k).1.2).turn)), (vB ((delR d l rt fu ln k).2.1)), (vI ((delR d l rt fu ln k).2.2))] 94 : Chunk) = (bk tb #[(vP ab), (vI rt.at_), (vI rt.turn), (vB fu), (vI ((ln : Int) - 1))] 94 : Chunk) := by
    rw [delR_keep hth_ hl1_ hn (by omega)]
   replace M := M.rechunk 5 (c' := bk tb #[(vP ab), (vI (((delR d l rt fu ln k).1.2).at_)), (vI (((delR d l rt fu ln k).1.2).turn)), (vB ((delR d l rt fu ln k).2.1)), (vI ((delR d l rt fu ln k).2.2))] 94) rfl e53.symm
   have e54 : (delR d l rt fu ln k).1.1 = l1_ := by
    rw [delR_keep hth_ hl1_ hn (by omega)]
   replace M := M.rechunk 1 (c' := arenaC 143 145 S5 ab ((delR d l rt fu ln k).1.1)) rfl (congrArg (fun z => arenaC 143 145 S5 ab z) e54.symm)
   refine ⟨S5, ?_, M.close [5, 1] rfl (by decide) trivial⟩
   rw [hth_]
end Go.Proofs
namespace Tp
open Go
structure TabJ where
  ab : Nat
  rt : Handle
  fu : Bool
  ln : Int
  l : List RPlace
  S : Nat → Prop
abbrev tabL (t u e : TypeId) (tb : Nat) (i : TabJ) : List Chunk :=
  [blk tb (.cells #[.pointer (some ⟨i.ab, 0, none⟩), .int .i64 i.rt.at_, .int .i64 i.rt.turn, .bool i.fu, .int .i64 i.ln] t), arenaC u e i.S i.ab i.l]
def TabP (row : List THit) (c : Nat) (i : TabJ) : Prop := ∃ K d, TabI i.l i.rt i.fu i.ln row K d ∧ K ≤ c * 1000 ∧ row.length ≤ c
def tabC (t u e : TypeId) (S : Nat → Prop) (tb : Nat) (row : List THit) (c : Nat) : Chunk := Pack S (tabL t u e tb) (TabP row c)
def putR (l : List THit) (x : THit) : List THit := (delL l x.key).takeWhile (fun a => sLt a.key x.key) ++ x :: (delL l x.key).filter fun a => sLt x.key a.key
section
variable {l : List RPlace} {d K c : Nat} {r h : Handle} {fu : Bool} {ln : Int} {row : List THit} {x : THit} {k : ByteArray} {p : ByteArray → Bool} {t u e : TypeId} {S : Nat → Prop} {tb : Nat} {w : World} {b : THit × Bool}
theorem tabC_up (h : (tabC t u e S tb row c).inv w) : upT row ∧ row.length ≤ c := by
  obtain ⟨i, ⟨K, d, H, hK, hr⟩, _⟩ := h
  exact ⟨H.up, hr⟩
theorem upP_ge (k : ByteArray) : upP fun x => !(sLt x k) := fun x y hxy hx => by
  simp only [Bool.not_eq_true'] at *
  cases h : sLt y k with
  | false => rfl
  | true => rw [sLt_trans hxy h] at hx; cases hx
theorem upP_gt (k : ByteArray) : upP fun x => sLt k x := fun x y hxy hx => sLt_trans hx hxy
theorem downP_lt (k : ByteArray) : downP fun x => sLt x k := fun x y hxy hy => sLt_trans hxy hy
theorem downP_all : downP fun _ => true := fun _ _ _ _ => rfl
theorem tab_lookT (H : TabI l r fu ln row K d) (hp : upP p) : lookT fu d l r p = firstL row p noHit := by
  rcases H.tree with ⟨rfl, rfl, _⟩ | ⟨rfl, t, rfl, h2, h3, h4, rfl, h6⟩
  · rfl
  · exact least_ok hp h2 h4 H.up
theorem tab_lookG (H : TabI l r fu ln row K d) (hp : downP p) : lookG fu d l r p = lastL row p noHit := by
  rcases H.tree with ⟨rfl, rfl, _⟩ | ⟨rfl, t, rfl, h2, h3, h4, rfl, h6⟩
  · rfl
  · exact great_ok hp h2 h4 H.up
theorem tab_look (H : TabI l r fu ln row K d) : fu = true → lookOk d l r := by
  rcases H.tree with ⟨rfl, _⟩ | ⟨_, t, rfl, h2, h3, h4, rfl, h6⟩
  · intro h; cases h
  · intro _; exact look_okW h2 h4 H.big
theorem getL_first (hu : upT row) : getL row k = if (firstL row (fun x => !(sLt x k)) noHit).2 = true ∧ (firstL row (fun x => !(sLt x k)) noHit).1.key = k then ((firstL row (fun x => !(sLt x k)) noHit).1.val, true) else (0, false) := by
  have low : ∀ {P : List THit}, lowT P k → ∀ a, a ∈ P → (fun x => !(sLt x k)) a.key = false := fun hP a ha => by simp [hP a ha]
  cases hf : bsF (row.map THit.key) k with
  | true =>
    obtain ⟨P, z, Q, rfl, hP, hz, lP, hQ⟩ := bs_hit hu hf
    rw [getL_hit lP hz, firstL_skip (low lP), firstL_hit (by rw [hz]; simp [sLt_irrefl]), if_pos ⟨rfl, hz⟩]
  | false =>
    obtain ⟨P, Q, rfl, hP, lP, hQ⟩ := bs_miss hu hf
    rw [getL_no lP hQ, firstL_skip (low lP)]
    cases Q with
    | nil => rw [firstL_nil, if_neg (by simp [noHit])]
    | cons z R =>
      have hz := hQ z (by simp)
      rw [firstL_hit (by simp [sLt_asymm hz]), if_neg (fun h => sLt_ne hz h.2.symm)]
theorem tab_get (H : TabI l r fu ln row K d) : getT fu d l r k = getL row k := by
  unfold getT
  rw [tab_lookT H (upP_ge k), getL_first H.up]
theorem delL_no (hu : upT row) (hg : (getL row k).2 = false) : delL row k = row := by
  refine delL_self fun a ha e => ?_
  have : getL row k = (a.val, true) ∨ ∃ v, getL row k = (v, true) := by
    unfold getL
    cases hf : row.find? (fun a => decide (a.key = k)) with
    | none => exact absurd (List.find?_eq_none.1 hf a ha) (by simp [e])
    | some z => exact .inr ⟨_, rfl⟩
  rcases this with h | ⟨v, h⟩ <;> rw [h] at hg <;> cases hg
theorem takeWhile_up : ∀ {l : List THit}, upT l → l.takeWhile (fun a => sLt a.key k) = l.filter (fun a => sLt a.key k)
  | [], _ => rfl
  | z :: l, hu => by
    have h2 := upT_cons.1 hu
    cases hz : sLt z.key k with
    | true => simp [hz, takeWhile_up h2.2]
    | false =>
      rw [List.takeWhile_cons, if_neg (by simp [hz]), List.filter_cons, if_neg (by simp [hz])]
      symm
      refine List.filter_eq_nil_iff.2 fun a ha => ?_
      have := h2.1 a ha
      cases ha2 : sLt a.key k with
      | false => simp
      | true => rw [sLt_trans this ha2] at hz; cases hz
theorem putR_eq (hu : upT row) : putR row x = putL row x := by
  unfold putR putL
  rw [takeWhile_up (delL_up hu)]
  unfold delL
  rw [List.filter_filter, List.filter_filter]
  congr 1
  · refine List.filter_congr fun a _ => ?_
    cases h : sLt a.key x.key with
    | false => rfl
    | true => simp [sLt_ne h]
  · congr 1
    refine List.filter_congr fun a _ => ?_
    cases h : sLt x.key a.key with
    | false => rfl
    | true => simp [(sLt_ne h).symm]
theorem put_len (hu : upT row) : (putL row x).length ≤ row.length + 1 := by rw [getL_len hu]; split <;> omega
theorem delL_le : (delL row k).length ≤ row.length := List.length_filter_le _ _
theorem put_small (H : TabI l r fu ln row K d) (hK : K + d + 3 ≤ 1000000) : SmallA (insF d (put0 l r fu).1 (put0 l r fu).2 x).1 := by
  obtain ⟨t, h1, h2, h3, h4, h5, h6, h7⟩ := put0_ok H
  have hI : ∃ K', K' ≤ 1000000 ∧ BigA (insF d (put0 l r fu).1 t.h x).1 K' := by
    rcases h4 with h4 | ⟨rfl, h4⟩
    · exact ⟨_, by omega, (ins_ok d (lo := 1) h2 h3 h4 (.inl (by omega)) (by omega) (h5 ▸ H.up) h7 (x := x)).1.big⟩
    · exact ⟨_, by omega, (ins_ok 0 (lo := 0) h2 h3 h4 (.inr rfl) (by omega) (h5 ▸ H.up) h7 (x := x)).1.big⟩
  obtain ⟨K', hk, hb⟩ := hI
  rw [h1] at hb
  exact hb.small hk
theorem del_small (H : TabI l r fu ln row K d) (hK : K ≤ 1000000) (hg : (getT fu d l r k).2 = true) : DelOk d l r k := by
  rw [tab_get H] at hg
  obtain ⟨_, t, h1, h2, h3, h4, h5, h6⟩ := tab_full H hg
  have R := rem_ok d (k := k) (lo := 1) h2 h3 h4 (by omega) (h5 ▸ H.up) H.big (h5 ▸ getL_mem hg)
  rw [h1] at R
  obtain ⟨t', p1, p2, p3, p4, p5, p6, p7⟩ := R.parts
  refine ⟨del_okW H hg hK, R.big.small hK, fun hl => ?_⟩
  obtain ⟨h', ks, ts⟩ := t'
  have p1 : h' = r := p1
  subst p1
  have e := (holds_mk.1 p2).1
  rw [atA_get e] at hl ⊢
  cases d with
  | zero => cases hl
  | succ d => rw [kids_len (ok_mk.1 p5).2.2]; omega
theorem del_row (H : TabI l r fu ln row K d) : ∃ d', TabI (delR d l r fu ln k).1.1 (delR d l r fu ln k).1.2 (delR d l r fu ln k).2.1 (delR d l r fu ln k).2.2 (delL row k) K d' := by
  cases hg : (getT fu d l r k).2 with
  | false =>
    rw [delR_no hg]
    rw [tab_get H] at hg
    rw [delL_no H.up hg]
    exact ⟨d, H⟩
  | true =>
    unfold delR
    rw [if_pos hg]
    rw [tab_get H] at hg
    exact del_tab H hg
end
end Tp
namespace Tp
open Go
def walkOk (d : Nat) (l : List TPl) (a : Nat) (t : BT) (q : Int) : Prop := okB 0 d t ∧ ∃ pre post, l = pre ++ placesB d t q ++ post ∧ pre.length = a
def leastK : Nat → Nat
  | 0 => 0
  | 1 => 1
  | n + 2 => 3 * leastK (n + 1) + 2
structure PlcOk (row : List THit) (ps : List TPl) (D : Nat) : Prop where
  keys : ∀ (i : Nat) (p : TPl), ps[i]? = some p → 1 ≤ p.keys.length ∧ p.keys.length ≤ 4 ∧ (0 < i → 2 ≤ p.keys.length)
  leaf : ∀ p, p ∈ ps → p.leaf = true → p.depth = D
  deep : ∀ p, p ∈ ps → 1 ≤ p.depth ∧ p.depth ≤ D
  least : leastK D ≤ row.length
  both : ps = [] ↔ row = []
  walk : ps ≠ [] → ∃ d t, walkOk d ps 0 t 1 ∧ row = flatB d t ∧ (placesB d t 1).length = ps.length
end Tp
namespace Tp
open Go
def hitE (x : THit) : List Value := [.string x.key, .int .i64 x.val]
theorem hitE_len (x : THit) : (hitE x).length = 2 := rfl
theorem hitE_cel (x : THit) : Step.Cellish (hitE x) := cel_cons rfl (cel_cons rfl cel_nil)
theorem hit_eqB (a b : THit) : ((a.key.toList == b.key.toList) && (((a.val : Int) == (b.val : Int)) && true)) = decide (a = b) := by
  rw [sEq_dec]
  cases a; cases b
  rw [Bool.eq_iff_iff]; simp
theorem Does.callV {P : Program} {d : Option Nat} {ty : TypeId} {pos : String} {aft : Array Edge} {g : Option (Nat × Bool)} {c : Array Operand} {ts : Array TypeId} {x : Operand} {y : Value} {ar_ : List Value} {R : Value → World → Prop} {ρ : Env} {w : World}
    (hx : ρ.ev x = y) (ha : c.toList.map ρ.ev = ar_) (h : RetsV P y ar_.toArray w R) : Does P ⟨d, .call { callee := .value x, args := c, argTypes := ts }, ty, pos, aft, g⟩ ρ w R :=
  let ⟨nx, h1, h2, h3⟩ := h; .inr ⟨nx, h1, CallsN.value hx ha h2, h3⟩
theorem TW.callV {P : Program} {ops : Array Oper} {ld mk : List Nat} {Q : Env → World → Prop} {i : Nat} {d : Option Nat} {ty : TypeId} {pos : String} {aft : Array Edge} {g : Option (Nat × Bool)}
  {rest : List Nat} {ρ : Env} {F X : Nat → Prop} {w0 : World} {Lp L : List Chunk} {Rp R : List (World → Prop)} {c : Array Operand} {ts : Array TypeId} {x : Operand} {y : Value} {ar_ : List Value} {ι : Type} (p : ι → Value → Prop) (L' : ι → List Chunk) (R' : ι → List (World → Prop))
    (hi : ops[i]? = some ⟨d, .call { callee := .value x, args := c, argTypes := ts }, ty, pos, aft, g⟩) (hl : i ∈ ld) (hw : ρ.want ops g = true)
    (hx : ρ.ev x = y) (ha : c.toList.map ρ.ev = ar_) (hL : ∀ x, Lp.Sublist (L' x)) (hR : ∀ x r, r ∈ Rp → r ∈ R' x)
    (h : ∀ A w, Mem F X w0 (fl A :: L) R w → RetsV P y ar_.toArray w fun v w' => ∃ x, p x v ∧ Mem F X w0 (fl A :: L' x) (R' x) w' ∧ ∀ b, A b → w'.heap[b]? = w.heap[b]?)
    (k : ∀ x v, p x v → (∃ A w, Mem F X w0 (fl A :: L' x) (R' x) w) → TW P ops ld mk (Dm F X w0 Lp Rp) Q rest (ρ.put d v) (MemA F X w0 (L' x) (R' x))) (hm : i ∉ mk := by decide) : TW P ops ld mk (Dm F X w0 Lp Rp) Q (i :: rest) ρ (MemA F X w0 L R) :=
  .loudx (hm := hm) (fun x v A w => p x v ∧ MemA F X w0 (L' x) (R' x) A w) hi hl hw (fun x v => (good_mem (hL x) (hR x)).and)
    (fun A w M => Does.callV hx ha ((h A w M).mono fun v w' ⟨x, h1, h2, h3⟩ => ⟨⟨x, h1, h2⟩, h3⟩))
    fun x v ⟨A, w, hp, hM⟩ => (k x v hp ⟨A, w, hM⟩).weaken (fun _ _ hs => hs.2) fun _ _ _ h1 h2 _ => ⟨h1.1, h2⟩
end Tp
set_option maxRecDepth 100000
namespace Go.Proofs
open Go Tp
theorem Try.un34 : Und Try.prog 34 (.slice 41) := by unfold Und; kernel_rfl
end Go.Proofs
namespace Tp
open Go
structure PlC where
  depth : Int
  leaf : Bool
  kv : {v : Value // IsSl v}
section
variable {F X : Nat → Prop} {w0 w : World} {L Ls : List Chunk} {R : List (World → Prop)} {es e : TypeId} {N : Nat → Prop} {k i : Nat} {cs : List PlC} {ps : List TPl} {c : Chunk} {x : PlC} {p : TPl} {v : Value}
theorem Mem.split (M : Mem F X w0 (c :: L) R w) (hok : ∀ d, d ∈ Ls → d.Ok w) (hpw : Ls.Pairwise fun c d => ∀ b, c.foot b → ¬ d.foot b) (hf : ∀ d, d ∈ Ls → ∀ b, d.foot b → c.foot b) : Mem F X w0 (Ls ++ L) R w := by
  have hp := List.pairwise_cons.1 M.disj
  refine ⟨M.mod, fun c hc => ?_, List.pairwise_append.2 ⟨hpw, hp.2, fun c hc d hd b hb => hp.1 d hd b (hf c hc b hb)⟩, fun d hd b hb => ?_, fun r hr => (M.sh r hr).mono fun b hb _ => ⟨hb.1, fun d hd hcb => ?_⟩⟩
  · rcases List.mem_append.1 hc with hc | hc
    · exact hok c hc
    · exact M.ok c (by simp [hc])
  · rcases List.mem_append.1 hd with hd | hd
    · exact M.in_ c (by simp) b (hf d hd b hb)
    · exact M.in_ d (by simp [hd]) b hb
  · rcases List.mem_append.1 hd with hd | hd
    · exact hb.2 c (by simp) (hf d hd b hcb)
    · exact hb.2 d (by simp [hd]) hcb
end
end Tp
namespace Tp
theorem up_yes {xs : List THit} {i j : Nat} {a b : THit} (hu : upT xs) (ha : xs[i]? = some a) (hb : xs[j]? = some b) (h : i < j) : sLt a.key b.key = true := by
  obtain ⟨h1, rfl⟩ := List.getElem?_eq_some_iff.1 ha
  obtain ⟨h2, rfl⟩ := List.getElem?_eq_some_iff.1 hb
  exact List.pairwise_iff_getElem.1 hu i j h1 h2 h
end Tp
set_option maxRecDepth 100000
namespace Go.Proofs
open Go Tp
abbrev oR (v : Value) (xs : List THit) : Chunk := own 41 2 v xs.length (xs.flatMap hitE)
abbrev fR (v : Value) (xs : List THit) : World → Prop := SlAt 2 v xs.length (xs.flatMap hitE)
end Go.Proofs
namespace Tp
open Go
def fromL (l : List THit) (k : ByteArray) : THit × Bool := firstL l (fun x => !(sLt x k)) noHit
def afterL (l : List THit) (k : ByteArray) : THit × Bool := firstL l (fun x => sLt k x) noHit
def beforeL (l : List THit) (k : ByteArray) : THit × Bool := lastL l (fun x => sLt x k) noHit
def tailL (l : List THit) : THit × Bool := lastL l (fun _ => true) noHit
section
variable {F X G : Nat → Prop} {w0 w : World} {L L' Ln : List Chunk} {R : List (World → Prop)} {t u e : TypeId} {S : Nat → Prop} {tb c : Nat} {row : List THit} {P : Program} {f : FuncId} {args : Array Value}
theorem Mem.perm (M : Mem F X w0 L R w) (h : L.Perm L') : Mem F X w0 L' R w :=
  ⟨M.mod, fun c hc => M.ok c (h.mem_iff.2 hc), h.pairwise M.disj fun hxy b hb hb' => hxy b hb' hb, fun c hc => M.in_ c (h.mem_iff.2 hc), fun r hr => (M.sh r hr).mono fun b hb _ => ⟨hb.1, fun c hc => hb.2 c (h.mem_iff.2 hc)⟩⟩
theorem reads_via {ι : Type} {A B : Chunk} (r : ι → Value) (Ln : ι → List Chunk) (M : Mem G X w [B, A] [] w)
    (h : ∀ (G' X' : Nat → Prop), Mem G' X' w [A] [B.inv] w → Rets P f args w fun v w' => ∃ q : ι, v = r q ∧ Mem G' X' w (A :: Ln q) [] w') :
    Rets P f args w fun v w' => ∃ q : ι, v = r q ∧ Mem G X w (B :: A :: Ln q) [] w' := by
  refine Rets.mono (h _ _ (M.enterW (C := [A]) (D := [B]) [1, 0] rfl (by decide) ⟨M.wideC (C := [A]) (D := [B]) [1, 0] rfl (by decide) 0 rfl, trivial⟩)) ?_
  rintro v w' ⟨q, rfl, m⟩
  have M2 := M.leaveW (C := [A]) (D := [B]) [1, 0] rfl (by decide) m
  exact ⟨q, rfl, M2.perm (List.perm_append_comm (l₁ := A :: Ln q) (l₂ := [B]))⟩
theorem tab_reads {ι : Type} (r : ι → Value) (Ln : ι → List Chunk) (M : Mem G X w [tabC t u e S tb row c] [] w)
    (h : ∀ i : TabJ, TabP row c i → ∀ (G' X' : Nat → Prop), Mem G' X' w [arenaC u e i.S i.ab i.l] [bF tb #[.pointer (some ⟨i.ab, 0, none⟩), .int .i64 i.rt.at_, .int .i64 i.rt.turn, .bool i.fu, .int .i64 i.ln] t] w → Rets P f args w fun v w' => ∃ q : ι, v = r q ∧ Mem G' X' w (arenaC u e i.S i.ab i.l :: Ln q) [] w') :
    Rets P f args w fun v w' => ∃ q : ι, v = r q ∧ Mem G X w (tabC t u e S tb row c :: Ln q) [] w' := by
  obtain ⟨i, hi, rfl, M1⟩ := M.unpack
  refine Rets.mono (reads_via r Ln M1 fun G' X' M' => h i hi G' X' M') ?_
  rintro v w' ⟨q, rfl, m⟩
  exact ⟨q, rfl, Mem.pack (Ls := tabL t u e tb) (p := TabP row c) (L := Ln q) i m hi⟩
theorem TabP.up {i : TabJ} (h : TabP row c i) : TabP row (c + 1) i := by
  obtain ⟨K, d, H, hK, hr⟩ := h; exact ⟨K, d, H, Nat.le_trans hK (Nat.mul_le_mul_right _ (Nat.le_succ _)), Nat.le_succ_of_le hr⟩
theorem Mem.tabUp (M : Mem F X w0 (tabC t u e S tb row c :: L) R w) : Mem F X w0 (tabC t u e S tb row (c + 1) :: L) R w := by
  obtain ⟨i, hi, rfl, M1⟩ := M.unpack
  exact Mem.pack (Ls := tabL t u e tb) (p := TabP row (c + 1)) i M1 hi.up
theorem TabI.small' {l : List RPlace} {r : Handle} {fu : Bool} {ln : Int} {K d : Nat} (H : TabI l r fu ln row K d) (hK : K ≤ 1000000) : SmallA l := H.big.small hK
theorem put_row {i : TabJ} {x : THit} {K d : Nat} (H : TabI i.l i.rt i.fu i.ln row K d) (hK : K ≤ c * 1000) (hr : row.length ≤ c) (hc : c ≤ 900) {S' : Nat → Prop} :
    TabP (putR row x) (c + 1) ⟨i.ab, (putT d i.l i.rt i.fu i.ln x).1.2, true, (putT d i.l i.rt i.fu i.ln x).2.1, (putT d i.l i.rt i.fu i.ln x).1.1, S'⟩ := by
  obtain ⟨d', H', _⟩ := put_tab (x := x) H
  have hd := tab_deep H
  rw [← putR_eq H.up] at H'
  refine ⟨_, d', H', by omega, ?_⟩
  rw [putR_eq H.up]
  have := put_len (x := x) H.up
  omega
end
end Tp
set_option maxRecDepth 100000
namespace Go.Proofs
open Go Tp
abbrev tT (S : Nat → Prop) (tb : Nat) (row : List THit) (c : Nat) : Chunk := tabC 94 143 145 S tb row c
theorem T_new {G : Nat → Prop} {w : World}    (M : Mem G (fun _ => False) w [] [] w) : Rets Try.prog 30 #[] w fun r w' => ∃ (tb' : Nat) (S' : Nat → Prop), r = (vP tb') ∧ Mem G (fun _ => False) w [tT S' tb' ([] : List THit) 0] [] w' := by
 refine Rets.mono (tab_new M) ?_
 rintro _ w' ⟨tb, ab, S', rfl, m⟩
 exact ⟨tb, _, rfl, Mem.pack (Ls := tabL 94 143 145 tb) (p := TabP [] 0) ⟨ab, ⟨0, 0⟩, false, 0, [], S'⟩ m ⟨0, 0, Tp.tab_new, Nat.le_refl _, Nat.le_refl _⟩⟩
theorem T_put {G X : Nat → Prop} {w : World} (tb : Nat) (S : Nat → Prop) (row : List THit) (c : Nat) (k : ByteArray) (v : Int)  (hc : c ≤ 900) (M : Mem G X w [tT S tb row c] [] w) : Rets Try.prog 18 #[(vP tb), (vS k), (vI v)] w fun r w' => ∃ (S' : Nat → Prop), r = (Value.tuple #[(vI ((getL row k).1)), (vB ((getL row k).2))]) ∧ Mem G X w [tT S' tb (putR row (⟨k, v⟩ : THit)) (c + 1)] [] w' := by
 obtain ⟨i, ⟨K, d, H, hK, hr⟩, rfl, M1⟩ := M.unpack
 have hd := tab_deep H
 refine Rets.mono (tab_put tb i.ab i.rt i.fu i.ln i.l i.S k v (H.small' (by omega)) d (put_okW H (by omega)) (put_small H (by omega)) (by rw [H.len]; omega) M1) ?_
 rintro _ w' ⟨S', rfl, m⟩
 obtain ⟨_, _, e⟩ := put_tab (x := (⟨k, v⟩ : THit)) H
 exact ⟨_, by rw [e], Mem.pack (Ls := tabL 94 143 145 tb) (p := TabP (putR row (⟨k, v⟩ : THit)) (c + 1)) ⟨i.ab, _, true, _, _, S'⟩ m (put_row H hK hr hc)⟩
theorem T_delete {G X : Nat → Prop} {w : World} (tb : Nat) (S : Nat → Prop) (row : List THit) (c : Nat) (k : ByteArray)  (hc : c ≤ 900) (M : Mem G X w [tT S tb row c] [] w) : Rets Try.prog 19 #[(vP tb), (vS k)] w fun r w' => ∃ (S' : Nat → Prop), r = (Value.tuple #[(vI ((getL row k).1)), (vB ((getL row k).2))]) ∧ Mem G X w [tT S' tb (delL row k) c] [] w' := by
 obtain ⟨i, ⟨K, d, H, hK, hr⟩, rfl, M1⟩ := M.unpack
 refine Rets.mono (tab_delete tb i.ab i.rt i.fu i.ln i.l i.S k (H.small' (by omega)) d (tab_look H) (del_small H (by omega)) (by rw [H.len]; omega) M1) ?_
 rintro _ w' ⟨S', rfl, m⟩
 obtain ⟨d', H'⟩ := del_row (k := k) H
 exact ⟨_, by rw [tab_get H], Mem.pack (Ls := tabL 94 143 145 tb) (p := TabP (delL row k) c) ⟨i.ab, _, _, _, _, S'⟩ m ⟨K, d', H', hK, Nat.le_trans delL_le hr⟩⟩
theorem T_get {G X : Nat → Prop} {w : World} (tb : Nat) (S : Nat → Prop) (row : List THit) (c : Nat) (k : ByteArray)  (hc : c ≤ 900) (M : Mem G X w [tT S tb row c] [] w) : Rets Try.prog 17 #[(vP tb), (vS k)] w fun r w' => r = (Value.tuple #[(vI ((getL row k).1)), (vB ((getL row k).2))]) ∧ Mem G X w [tT S tb row c] [] w' := by
 refine (tab_reads (ι := Unit) (fun _ => (Value.tuple #[(vI ((getL row k).1)), (vB ((getL row k).2))])) (fun _ => []) M fun i ⟨K, d, H, hK, hr⟩ G' X' M' => ?_).mono fun v w' ⟨_, e, m⟩ => ⟨e, m⟩
 refine (tr_Get tb i.ab i.rt i.fu i.ln i.l i.S k (H.small' (by omega)) d (tab_look H) M').mono fun v w' ⟨e, m⟩ => ⟨(), ?_, m⟩
 rw [e, tab_get H]
theorem T_from {G X : Nat → Prop} {w : World} (tb : Nat) (S : Nat → Prop) (row : List THit) (c : Nat) (k : ByteArray)  (hc : c ≤ 900) (M : Mem G X w [tT S tb row c] [] w) : Rets Try.prog 45 #[(vP tb), (vS k)] w fun r w' => r = (Value.tuple #[(Value.agg #[(vS (((fromL row k).1).key)), (vI (((fromL row k).1).val))]), (vB ((fromL row k).2))]) ∧ Mem G X w [tT S tb row c] [] w' := by
 refine (tab_reads (ι := Unit) (fun _ => (Value.tuple #[(Value.agg #[(vS (((fromL row k).1).key)), (vI (((fromL row k).1).val))]), (vB ((fromL row k).2))])) (fun _ => []) M fun i ⟨K, d, H, hK, hr⟩ G' X' M' => ?_).mono fun v w' ⟨_, e, m⟩ => ⟨e, m⟩
 refine (tr_From tb i.ab i.rt i.fu i.ln i.l i.S k (H.small' (by omega)) d (tab_look H) M').mono fun v w' ⟨e, m⟩ => ⟨(), ?_, m⟩
 rw [e, tab_lookT H (upP_ge k)]; rfl
theorem T_after {G X : Nat → Prop} {w : World} (tb : Nat) (S : Nat → Prop) (row : List THit) (c : Nat) (k : ByteArray)  (hc : c ≤ 900) (M : Mem G X w [tT S tb row c] [] w) : Rets Try.prog 72 #[(vP tb), (vS k)] w fun r w' => r = (Value.tuple #[(Value.agg #[(vS (((afterL row k).1).key)), (vI (((afterL row k).1).val))]), (vB ((afterL row k).2))]) ∧ Mem G X w [tT S tb row c] [] w' := by
 refine (tab_reads (ι := Unit) (fun _ => (Value.tuple #[(Value.agg #[(vS (((afterL row k).1).key)), (vI (((afterL row k).1).val))]), (vB ((afterL row k).2))])) (fun _ => []) M fun i ⟨K, d, H, hK, hr⟩ G' X' M' => ?_).mono fun v w' ⟨_, e, m⟩ => ⟨e, m⟩
 refine (tr_After tb i.ab i.rt i.fu i.ln i.l i.S k (H.small' (by omega)) d (tab_look H) M').mono fun v w' ⟨e, m⟩ => ⟨(), ?_, m⟩
 rw [e, tab_lookT H (upP_gt k)]; rfl
theorem T_before {G X : Nat → Prop} {w : World} (tb : Nat) (S : Nat → Prop) (row : List THit) (c : Nat) (k : ByteArray)  (hc : c ≤ 900) (M : Mem G X w [tT S tb row c] [] w) : Rets Try.prog 60 #[(vP tb), (vS k)] w fun r w' => r = (Value.tuple #[(Value.agg #[(vS (((beforeL row k).1).key)), (vI (((beforeL row k).1).val))]), (vB ((beforeL row k).2))]) ∧ Mem G X w [tT S tb row c] [] w' := by
 refine (tab_reads (ι := Unit) (fun _ => (Value.tuple #[(Value.agg #[(vS (((beforeL row k).1).key)), (vI (((beforeL row k).1).val))]), (vB ((beforeL row k).2))])) (fun _ => []) M fun i ⟨K, d, H, hK, hr⟩ G' X' M' => ?_).mono fun v w' ⟨_, e, m⟩ => ⟨e, m⟩
 refine (tr_Before tb i.ab i.rt i.fu i.ln i.l i.S k (H.small' (by omega)) d (tab_look H) M').mono fun v w' ⟨e, m⟩ => ⟨(), ?_, m⟩
 rw [e, tab_lookG H (downP_lt k)]; rfl
theorem T_last {G X : Nat → Prop} {w : World} (tb : Nat) (S : Nat → Prop) (row : List THit) (c : Nat)  (hc : c ≤ 900) (M : Mem G X w [tT S tb row c] [] w) : Rets Try.prog 78 #[(vP tb)] w fun r w' => r = (Value.tuple #[(Value.agg #[(vS (((tailL row).1).key)), (vI (((tailL row).1).val))]), (vB ((tailL row).2))]) ∧ Mem G X w [tT S tb row c] [] w' := by
 refine (tab_reads (ι := Unit) (fun _ => (Value.tuple #[(Value.agg #[(vS (((tailL row).1).key)), (vI (((tailL row).1).val))]), (vB ((tailL row).2))])) (fun _ => []) M fun i ⟨K, d, H, hK, hr⟩ G' X' M' => ?_).mono fun v w' ⟨_, e, m⟩ => ⟨e, m⟩
 refine (tr_Last tb i.ab i.rt i.fu i.ln i.l i.S (H.small' (by omega)) d (tab_look H) M').mono fun v w' ⟨e, m⟩ => ⟨(), ?_, m⟩
 rw [e, tab_lookG H downP_all]; rfl
end Go.Proofs
namespace Tp
open Go
section
variable {l : List THit} {i : Nat} {x : THit} {k : ByteArray} {p : ByteArray → Bool} {b : THit × Bool} {q : THit → Bool}
theorem find_hit (hx : l[i]? = some x) (hq : q x = true) (hb : ∀ j u, j < i → l[j]? = some u → q u = false) : l.find? q = some x := by
  obtain ⟨h1, rfl⟩ := List.getElem?_eq_some_iff.1 hx
  rw [List.find?_eq_some_iff_getElem]
  exact ⟨hq, i, h1, rfl, fun j hj => by simp [hb j _ hj (List.getElem?_eq_getElem (by omega))]⟩
theorem getL_at (hx : l[i]? = some x) (hq : (fun u : THit => decide (u.key = k)) x = true) (hb : ∀ j u, j < i → l[j]? = some u → (fun u : THit => decide (u.key = k)) u = false) : getL l k = (x.val, true) := by
  unfold getL; rw [find_hit hx hq hb]
theorem filt_snoc {α : Type} {p : α → Bool} {l : List α} {i : Nat} {x : α} (hx : l[i]? = some x) : (l.take (i + 1)).filter p = (l.take i).filter p ++ if p x then [x] else [] := by
  rw [← take_snoc hx, List.filter_append]; congr 1
  by_cases h : p x <;> simp [h]
theorem filtY {α : Type} {p : α → Bool} {l : List α} {i : Nat} {x : α} (hx : l[i]? = some x) (h : p x = true) : (l.take (i + 1)).filter p = (l.take i).filter p ++ [x] := by rw [filt_snoc hx, h]; rfl
theorem filtN {α : Type} {p : α → Bool} {l : List α} {i : Nat} {x : α} (hx : l[i]? = some x) (h : p x = false) : (l.take (i + 1)).filter p = (l.take i).filter p := by rw [filt_snoc hx, h]; simp
theorem takeW_of {α : Type} {p : α → Bool} : ∀ {l : List α} {i : Nat}, (∀ j u, j < i → l[j]? = some u → p u = true) → (l.length ≤ i ∨ ∃ u, l[i]? = some u ∧ p u = false) → l.takeWhile p = l.take i
  | [], i, _, _ => by simp
  | a :: l, 0, _, h => by
    rcases h with h | ⟨u, h1, h2⟩
    · simp at h
    · simp at h1; subst h1; simp [h2]
  | a :: l, i + 1, hb, h => by
    have ha := hb 0 a (by omega) rfl
    rw [List.takeWhile_cons, if_pos ha, List.take_succ_cons, takeW_of (i := i) (fun j u hj hu => hb (j + 1) u (by omega) hu) (by simpa using h)]
end
end Tp
set_option maxRecDepth 100000
namespace Go.Proofs
open Go Tp
theorem Try.un27 : Und Try.prog 27 (.slice 108) := by unfold Und; kernel_rfl
theorem Try.ag108 : Aggr Try.prog 108 2 := ⟨fun _ => by kernel_rfl, fun _ => by kernel_rfl⟩
theorem Try.el108 : Elem Try.prog 108 (Value.agg #[(vS sZ), (vI 0)]) 2 24 := Elem.mk (by kernel_rfl)
abbrev oQ (v : Value) (xs : List THit) : Chunk := own 108 2 v xs.length (xs.flatMap hitE)
theorem r_delete {G : Nat → Prop} {w : World} (v : Value) (l : List THit) (k : ByteArray)  (hb : l.length ≤ 400000) (M : Mem G (fun _ => False) w [] [fR v l] w) : Rets Try.prog 41 #[v, (vS k)] w fun r w' => ∃ (v' : Value), r = v' ∧ Mem G (fun _ => False) w [] [fR v' (delL l k)] w' := by
 refine Rets.enter 28 _ Try.func41 rfl Try.ntmps41 Try.results41 (by simp) ?_
 have hle1 := SlAt.le' (M.rep 0 rfl)
 have sl2 : IsSl v := SlAt.isSl (Mem.rep M 0 rfl)
 refine wR (wA vZ (WL.nil (wR (wA vZ (WL.nil (W.seq' (wR (wA (vI 0) (WL.nil (W.block ?_))))))))))
 replace M := M.ownNil 108 2
 replace M := M.rechunk 0 (c' := oQ vZ ((l.take 0).filter fun a => !decide (a.key = k))) rfl rfl
 refine W.loop (fun kk ρ w' => ∃ (i_ : Nat) (acci_ : Value), ((i_ ≤ l.length) ∧ kk = l.length - i_) ∧ ρ.has [(0, v), (1, (vS k)), (4, vZ), (5, acci_), (6, (vI ↑i_))] ∧ Mem G (fun _ => False) w [oQ acci_ ((l.take i_).filter fun a => !decide (a.key = k))] [fR v l]  w') _ ⟨0, _, ⟨(Nat.zero_le _), rfl⟩, ⟨rfl, rfl, rfl, rfl, rfl, rfl, rfl⟩, M⟩ ?_
 rintro _ ρ4 w3 ⟨i_, acci_, ⟨hi5, rfl⟩, hρ, M⟩
 obtain ⟨ρ4, rfl⟩ := hρ.know
 clear hρ
 have sl6 : IsSl acci_ := SlAt.isSl (oW (M.chunk 0 rfl).inv)
 have hacl : ((l.take i_).filter fun a => !decide (a.key = k)).length ≤ 400000 := Nat.le_trans (List.length_filter_le _ _) (by rw [List.length_take]; omega)
 refine W.seq' (wR (wM (vI ↑i_) (wM v (wS (vI ↑l.length) rfl (Step.lenSl Try.un27 rfl (M.rep 0 rfl)) (wP (vB (decide ((↑i_ : Int) < (↑l.length : Int)))) (WL.nil ?_))))))
 refine W.cond (t := decide ((↑i_ : Int) < (↑l.length : Int))) rfl (fun h7 => ?_) (fun h7 => ?_)
 ·
  have h7p := dT h7
  refine W.skip (W.seq' (W.block (wR (wM v (wM (vI ↑i_) ?_)))))
  obtain ⟨cap9, hb8⟩ := SlAt.base (M.rep 0 rfl) (by omega)
  obtain ⟨x10, hx10⟩ := elem_of_lt (xs := l) (i := i_) (by omega)
  refine wS (vQ v i_ 2) rfl (sX i_ Try.un27 Try.el108 rfl rfl hb8) (wP (vQ v i_ 2) (wS (vS x10.key) rfl (Step.loadE (k := 0) Try.sc9 (flat_ec (M.rep 0 rfl) hx10 hitE_len) (by decide) rfl rfl) (wM (vS k) (wP (vB (!(x10.key.toList == k.toList))) (WL.nil ?_)))))
  refine W.cond (t := !(x10.key.toList == k.toList)) rfl (fun h11 => ?_) (fun h11 => ?_)
  ·
   refine W.region rfl (wM acci_ (wM v (wM (vI ↑i_) (wS (vQ v i_ 2) rfl (sX i_ Try.un27 Try.el108 rfl rfl hb8) (wS (Value.agg #[(vS x10.key), (vI x10.val)]) rfl (Step.loadEN (k := 0) (cs' := [(vS x10.key), (vI x10.val)]) Try.ag108 (flat_ec (M.rep 0 rfl) hx10 hitE_len) (by decide) rfl rfl rfl) ?_)))))
   refine WL.new (obj := .cells #[(vS x10.key), (vI x10.val)] 108) (fun b => .slice (some ⟨b, 0, none⟩) 1 1) M rfl (fun w => Step.make (by kernel_rfl)) (fun b12 w13 hb12 M => ?_)
   refine WL.does rfl (M.appendF ((l.take i_).filter fun a => !decide (a.key = k)) ([x10] : List THit) (sv := (Value.slice (some ⟨b12, 0, none⟩) 1 1)) 1 Try.un27 Try.el108 rfl (by decide) rfl rfl rfl (SlAt.of_blk (M.blk 0 rfl) rfl (by decide)) hitE_cel (by have := hacl; simp only [maxLen, List.length_nil, List.length_cons, List.length_append]; omega) (by have := hacl; (try simp only [List.length_nil, List.length_cons, List.length_append]); omega)) ?_
   rintro v14 w15 M
   have sl16 : IsSl v14 := SlAt.isSl (oW (M.chunk 1 rfl).inv)
   refine wA v14 (WL.nil (W.region rfl (wM (vI ↑i_) (wS (vI (↑i_ + 1)) rfl (Step.add rfl rfl (wrap_i64 (by omega))) (wA (vI (↑i_ + 1)) (WL.nil ?_))))))
   replace M := M.rechunk 1 (c' := oQ v14 ((l.take (i_ + 1)).filter fun a => !decide (a.key = k))) rfl (by rw [filtY hx10 (by simpa [sEq_dec] using h11)])
   replace M := M.sel (L' := [oQ v14 ((l.take (i_ + 1)).filter fun a => !decide (a.key = k))]) [1] rfl (by decide)
   exact ⟨_, (by omega), i_ + 1, v14, ⟨(by omega), rfl⟩, ⟨rfl, rfl, rfl, rfl, rfl, rfl, rfl⟩, M⟩
  ·
   refine W.skip (W.region rfl (wM (vI ↑i_) (wS (vI (↑i_ + 1)) rfl (Step.add rfl rfl (wrap_i64 (by omega))) (wA (vI (↑i_ + 1)) (WL.nil ?_)))))
   replace M := M.rechunk 0 (c' := oQ acci_ ((l.take (i_ + 1)).filter fun a => !decide (a.key = k))) rfl (by rw [filtN hx10 (by simpa [sEq_dec] using h11)])
   exact ⟨_, (by omega), i_ + 1, acci_, ⟨(by omega), rfl⟩, ⟨rfl, rfl, rfl, rfl, rfl, rfl, rfl⟩, M⟩
 ·
  have h7p := dF h7
  refine W.exit (thn_exit (thn_exit ?_))
  refine inBlk_hit ?_
  refine wR (wM acci_ (wA acci_ (WL.nil ?_)))
  refine W.ret ?_
  refine ⟨.inl rfl, acci_, ?_, ?_⟩
  · exact ⟨rfl, (Res.r1 (show RV _ _ _ (.tmp 4) acci_ from by exact rfl))⟩
  replace M := M.shareOwn 0 rfl
  have e17 : delL l k = ((l.take i_).filter fun a => !decide (a.key = k)) := by
   unfold delL; rw [List.take_of_length_le (by omega)]
  have hf18 := Sh.reList e17 (M.shr' 0 rfl)
  refine ⟨acci_, ?_, M.close [] rfl (by decide) ⟨hf18, trivial⟩⟩
  rfl
end Go.Proofs
set_option maxRecDepth 100000
namespace Go.Proofs
open Go Tp
theorem Try.en41 : Enters Try.prog 41 := fun _ _ => by kernel_rfl
theorem r_put {G : Nat → Prop} {w : World} (v : Value) (l : List THit) (k : ByteArray) (n : Int)  (hb : l.length ≤ 400000) (M : Mem G (fun _ => False) w [] [fR v l] w) : Rets Try.prog 39 #[v, (vS k), (vI n)] w fun r w' => ∃ (v' : Value), r = v' ∧ Mem G (fun _ => False) w [] [fR v' (putR l (⟨k, n⟩ : THit))] w' := by
 refine Rets.enter 63 _ Try.func39 rfl Try.ntmps39 Try.results39 (by simp) ?_
 have hle1 := SlAt.le' (M.rep 0 rfl)
 have sl2 : IsSl v := SlAt.isSl (Mem.rep M 0 rfl)
 refine wR (wA vZ (WL.nil (wR (wA vZ (WL.nil (wR (wM v (wM (vS k) ?_))))))))
 refine WL.callX rfl (r_delete v l k (by omega) (M.enter0 ⟨(M.shr' 0 rfl), trivial⟩)) (CallsF.func Try.en41 rfl) ?_
 rintro v3 w4 ⟨_, rfl, m⟩
 replace M := M.leave0 m
 clear m
 have sl5 : IsSl v3 := SlAt.isSl (Mem.rep M 0 rfl)
 have hle6 := SlAt.le' (M.rep 0 rfl)
 refine wA v3 (WL.nil (W.seq' (wR (wA (vI 0) (WL.nil (W.block ?_))))))
 have hdl_ : (delL l k).length ≤ l.length := delL_le
 have htw_ := (List.takeWhile_prefix (p := fun a : THit => sLt a.key k) (l := (delL l k))).length_le
 replace M := M.ownNil 108 2
 replace M := M.rechunk 0 (c' := oQ vZ ((delL l k).take 0)) rfl rfl
 refine W.loop (fun kk ρ w' => ∃ (i_ : Nat) (acci_ : Value), ((i_ ≤ (delL l k).length) ∧ (∀ j u, j < i_ → (delL l k)[j]? = some u → (fun u : THit => !(sLt u.key k)) u = false) ∧ kk = (delL l k).length - i_) ∧ ρ.has [(1, (vS k)), (2, (vI n)), (6, vZ), (7, acci_), (8, v3), (9, (vI ↑i_))] ∧ Mem G (fun _ => False) w [oQ acci_ ((delL l k).take i_)] [fR v3 (delL l k), fR v l]  w') _ ⟨0, _, ⟨(Nat.zero_le _), (fun _ _ h => absurd h (Nat.not_lt_zero _)), rfl⟩, ⟨rfl, rfl, rfl, rfl, rfl, rfl, rfl, rfl⟩, M⟩ ?_
 rintro _ ρ8 w7 ⟨i_, acci_, ⟨hi9, hi10, rfl⟩, hρ, M⟩
 obtain ⟨ρ8, rfl⟩ := hρ.know
 clear hρ
 have sl11 : IsSl acci_ := SlAt.isSl (oW (M.chunk 0 rfl).inv)
 have hacl : ((delL l k).take i_).length ≤ 400000 := by rw [List.length_take]; omega
 refine W.seq' (wR (wM (vI ↑i_) (wM v3 (wS (vI (↑((delL l k).length))) rfl (Step.lenSl Try.un27 rfl (M.rep 0 rfl)) (wP (vB (decide ((↑i_ : Int) < (↑((delL l k).length) : Int)))) (wM (vB (decide ((↑i_ : Int) < (↑((delL l k).length) : Int)))) ?_))))))
 rcases Bool.eq_false_or_eq_true (decide ((↑i_ : Int) < (↑((delL l k).length) : Int))) with h12 | h12
 ·
  have h12p := dT h12
  rw [h12]
  refine wM v3 (wM (vI ↑i_) ?_)
  obtain ⟨cap14, hb13⟩ := SlAt.base (M.rep 0 rfl) (by omega)
  obtain ⟨x15, hx15⟩ := elem_of_lt (xs := delL l k) (i := i_) (by omega)
  refine wS (vQ v3 i_ 2) rfl (sX i_ Try.un27 Try.el108 rfl rfl hb13) (wP (vQ v3 i_ 2) (wS (vS x15.key) rfl (Step.loadE (k := 0) Try.sc9 (flat_ec (M.rep 0 rfl) hx15 hitE_len) (by decide) rfl rfl) (wM (vS k) (wP (vB (sLt x15.key k)) (wS (vB (sLt x15.key k)) rfl (Step.pick (t := true) rfl rfl) (WL.nil ?_))))))
  refine W.cond (t := sLt x15.key k) rfl (fun h16 => ?_) (fun h16 => ?_)
  ·
   refine W.skip (W.seq' (W.block (W.region rfl (wM acci_ (wM v3 (wM (vI ↑i_) (wS (vQ v3 i_ 2) rfl (sX i_ Try.un27 Try.el108 rfl rfl hb13) (wS (Value.agg #[(vS x15.key), (vI x15.val)]) rfl (Step.loadEN (k := 0) (cs' := [(vS x15.key), (vI x15.val)]) Try.ag108 (flat_ec (M.rep 0 rfl) hx15 hitE_len) (by decide) rfl rfl rfl) ?_))))))))
   refine WL.new (obj := .cells #[(vS x15.key), (vI x15.val)] 108) (fun b => .slice (some ⟨b, 0, none⟩) 1 1) M rfl (fun w => Step.make (by kernel_rfl)) (fun b17 w18 hb17 M => ?_)
   refine WL.does rfl (M.appendF ((delL l k).take i_) ([x15] : List THit) (sv := (Value.slice (some ⟨b17, 0, none⟩) 1 1)) 1 Try.un27 Try.el108 rfl (by decide) rfl rfl rfl (SlAt.of_blk (M.blk 0 rfl) rfl (by decide)) hitE_cel (by have := hacl; simp only [maxLen, List.length_nil, List.length_cons, List.length_append]; omega) (by have := hacl; (try simp only [List.length_nil, List.length_cons, List.length_append]); omega)) ?_
   rintro v19 w20 M
   have sl21 : IsSl v19 := SlAt.isSl (oW (M.chunk 1 rfl).inv)
   refine wA v19 (WL.nil (W.region rfl (wM (vI ↑i_) (wS (vI (↑i_ + 1)) rfl (Step.add rfl rfl (wrap_i64 (by omega))) (wA (vI (↑i_ + 1)) (WL.nil ?_))))))
   replace M := M.rechunk 1 (c' := oQ v19 ((delL l k).take (i_ + 1))) rfl (by rw [← take_snoc hx15])
   replace M := M.sel (L' := [oQ v19 ((delL l k).take (i_ + 1))]) [1] rfl (by decide)
   exact ⟨_, (by omega), i_ + 1, v19, ⟨(by omega), (below_stepG hi10 hx15 (by simpa using h16)), rfl⟩, ⟨rfl, rfl, rfl, rfl, rfl, rfl, rfl, rfl⟩, M⟩
  ·
   refine W.exit (thn_exit (thn_exit ?_))
   refine inBlk_hit ?_
   refine W.seq' ?_
   replace M := M.rechunk 0 (c' := oQ acci_ ((delL l k).takeWhile fun a => sLt a.key k)) rfl (by rw [takeW_of (i := i_) (fun j u h1 h2 => by simpa using hi10 j u h1 h2) (.inr ⟨_, hx15, by simpa using h16⟩)])
   refine W.region rfl (wM acci_ (wM (vS k) (wM (vI n) (wP (Value.agg #[(vS k), (vI n)]) ?_))))
   refine WL.new (obj := .cells #[(vS k), (vI n)] 108) (fun b => .slice (some ⟨b, 0, none⟩) 1 1) M rfl (fun w => Step.make (by kernel_rfl)) (fun b22 w23 hb22 M => ?_)
   refine WL.does rfl (M.appendF ((delL l k).takeWhile fun a => sLt a.key k) ([(⟨k, n⟩ : THit)] : List THit) (sv := (Value.slice (some ⟨b22, 0, none⟩) 1 1)) 1 Try.un27 Try.el108 rfl (by decide) rfl rfl rfl (SlAt.of_blk (M.blk 0 rfl) rfl (by decide)) hitE_cel (by have := htw_; simp only [maxLen, List.length_nil, List.length_cons, List.length_append]; omega) (by have := htw_; (try simp only [List.length_nil, List.length_cons, List.length_append]); omega)) ?_
   rintro v24 w25 M
   have sl26 : IsSl v24 := SlAt.isSl (oW (M.chunk 1 rfl).inv)
   refine wA v24 (WL.nil (W.seq' (wR (wA (vI 0) (WL.nil (W.block ?_))))))
   replace M := M.loseI 0
   replace M : Mem _ _ _ [oQ v24 (((delL l k).takeWhile fun a => sLt a.key k) ++ ([(⟨k, n⟩ : THit)] : List THit))] [fR v3 (delL l k), fR v l] _ := M
   replace M := M.rechunk 0 (c' := oQ v24 ((((delL l k).takeWhile fun a => sLt a.key k) ++ ([(⟨k, n⟩ : THit)] : List THit)) ++ ((delL l k).take 0).filter fun a => sLt k a.key)) rfl (by simp)
   replace M := M.sel (L' := [oQ v24 ((((delL l k).takeWhile fun a => sLt a.key k) ++ ([(⟨k, n⟩ : THit)] : List THit)) ++ ((delL l k).take 0).filter fun a => sLt k a.key)]) [0] rfl (by decide)
   refine W.loop (fun kk ρ w' => ∃ (j_ : Nat) (accj_ : Value), ((j_ ≤ (delL l k).length) ∧ kk = (delL l k).length - j_) ∧ ρ.has [(1, (vS k)), (6, vZ), (7, accj_), (8, v3), (10, (vI ↑j_))] ∧ Mem G (fun _ => False) w [oQ accj_ ((((delL l k).takeWhile fun a => sLt a.key k) ++ ([(⟨k, n⟩ : THit)] : List THit)) ++ ((delL l k).take j_).filter fun a => sLt k a.key)] [fR v3 (delL l k), fR v l]  w') _ ⟨0, _, ⟨(Nat.zero_le _), rfl⟩, ⟨rfl, rfl, rfl, rfl, rfl, rfl, rfl⟩, M⟩ ?_
   rintro _ ρ28 w27 ⟨j_, accj_, ⟨hi29, rfl⟩, hρ, M⟩
   obtain ⟨ρ28, rfl⟩ := hρ.know
   clear hρ
   have sl30 : IsSl accj_ := SlAt.isSl (oW (M.chunk 0 rfl).inv)
   have hacf := Nat.le_trans (List.length_filter_le (fun a : THit => sLt k a.key) ((delL l k).take j_)) (by rw [List.length_take]; exact Nat.min_le_right ..)
   have hac2 : ((((delL l k).takeWhile fun a => sLt a.key k) ++ ([(⟨k, n⟩ : THit)] : List THit)) ++ ((delL l k).take j_).filter fun a => sLt k a.key).length ≤ 1000000 := by simp only [List.length_append, List.length_cons, List.length_nil]; omega
   refine W.seq' (wR (wM (vI ↑j_) (wM v3 (wS (vI (↑((delL l k).length))) rfl (Step.lenSl Try.un27 rfl (M.rep 0 rfl)) (wP (vB (decide ((↑j_ : Int) < (↑((delL l k).length) : Int)))) (WL.nil ?_))))))
   refine W.cond (t := decide ((↑j_ : Int) < (↑((delL l k).length) : Int))) rfl (fun h31 => ?_) (fun h31 => ?_)
   ·
    have h31p := dT h31
    refine W.skip (W.seq' (W.block (wR (wM v3 (wM (vI ↑j_) ?_)))))
    obtain ⟨x32, hx32⟩ := elem_of_lt (xs := delL l k) (i := j_) (by omega)
    refine wS (vQ v3 j_ 2) rfl (sX j_ Try.un27 Try.el108 rfl rfl hb13) (wP (vQ v3 j_ 2) (wS (vS x32.key) rfl (Step.loadE (k := 0) Try.sc9 (flat_ec (M.rep 0 rfl) hx32 hitE_len) (by decide) rfl rfl) (wM (vS k) (wP (vB (!(sLt x32.key k || x32.key.toList == k.toList))) (WL.nil ?_)))))
    refine W.cond (t := !(sLt x32.key k || x32.key.toList == k.toList)) rfl (fun h33 => ?_) (fun h33 => ?_)
    ·
     refine W.region rfl (wM accj_ (wM v3 (wM (vI ↑j_) (wS (vQ v3 j_ 2) rfl (sX j_ Try.un27 Try.el108 rfl rfl hb13) (wS (Value.agg #[(vS x32.key), (vI x32.val)]) rfl (Step.loadEN (k := 0) (cs' := [(vS x32.key), (vI x32.val)]) Try.ag108 (flat_ec (M.rep 0 rfl) hx32 hitE_len) (by decide) rfl rfl rfl) ?_)))))
     refine WL.new (obj := .cells #[(vS x32.key), (vI x32.val)] 108) (fun b => .slice (some ⟨b, 0, none⟩) 1 1) M rfl (fun w => Step.make (by kernel_rfl)) (fun b34 w35 hb34 M => ?_)
     refine WL.does rfl (M.appendF ((((delL l k).takeWhile fun a => sLt a.key k) ++ ([(⟨k, n⟩ : THit)] : List THit)) ++ ((delL l k).take j_).filter fun a => sLt k a.key) ([x32] : List THit) (sv := (Value.slice (some ⟨b34, 0, none⟩) 1 1)) 1 Try.un27 Try.el108 rfl (by decide) rfl rfl rfl (SlAt.of_blk (M.blk 0 rfl) rfl (by decide)) hitE_cel (by have := hac2; simp only [maxLen, List.length_nil, List.length_cons, List.length_append]; omega) (by have := hac2; (try simp only [List.length_nil, List.length_cons, List.length_append]); omega)) ?_
     rintro v36 w37 M
     have sl38 : IsSl v36 := SlAt.isSl (oW (M.chunk 1 rfl).inv)
     refine wA v36 (WL.nil (W.region rfl (wM (vI ↑j_) (wS (vI (↑j_ + 1)) rfl (Step.add rfl rfl (wrap_i64 (by omega))) (wA (vI (↑j_ + 1)) (WL.nil ?_))))))
     replace M := M.rechunk 1 (c' := oQ v36 ((((delL l k).takeWhile fun a => sLt a.key k) ++ ([(⟨k, n⟩ : THit)] : List THit)) ++ ((delL l k).take (j_ + 1)).filter fun a => sLt k a.key)) rfl (by rw [filtY (p := fun a : THit => sLt k a.key) hx32 (by have h_ := h33; simpa [sGt, sLe] using h_), ← List.append_assoc])
     replace M := M.sel (L' := [oQ v36 ((((delL l k).takeWhile fun a => sLt a.key k) ++ ([(⟨k, n⟩ : THit)] : List THit)) ++ ((delL l k).take (j_ + 1)).filter fun a => sLt k a.key)]) [1] rfl (by decide)
     exact ⟨_, (by omega), j_ + 1, v36, ⟨(by omega), rfl⟩, ⟨rfl, rfl, rfl, rfl, rfl, rfl, rfl⟩, M⟩
    ·
     refine W.skip (W.region rfl (wM (vI ↑j_) (wS (vI (↑j_ + 1)) rfl (Step.add rfl rfl (wrap_i64 (by omega))) (wA (vI (↑j_ + 1)) (WL.nil ?_)))))
     replace M := M.rechunk 0 (c' := oQ accj_ ((((delL l k).takeWhile fun a => sLt a.key k) ++ ([(⟨k, n⟩ : THit)] : List THit)) ++ ((delL l k).take (j_ + 1)).filter fun a => sLt k a.key)) rfl (by rw [filtN (p := fun a : THit => sLt k a.key) hx32 (by have h_ := h33; simpa [sGt, sLe] using h_)])
     exact ⟨_, (by omega), j_ + 1, accj_, ⟨(by omega), rfl⟩, ⟨rfl, rfl, rfl, rfl, rfl, rfl, rfl⟩, M⟩
   ·
    have h31p := dF h31
    refine W.exit (thn_exit (thn_exit ?_))
    refine inBlk_hit ?_
    refine wR (wM accj_ (wA accj_ (WL.nil ?_)))
    refine W.ret ?_
    refine ⟨.inl rfl, accj_, ?_, ?_⟩
    · exact ⟨rfl, (Res.r1 (show RV _ _ _ (.tmp 6) accj_ from by exact rfl))⟩
    replace M := M.shareOwn 0 rfl
    have e39 : putR l (⟨k, n⟩ : THit) = ((((delL l k).takeWhile fun a => sLt a.key k) ++ ([(⟨k, n⟩ : THit)] : List THit)) ++ ((delL l k).take j_).filter fun a => sLt k a.key) := by
     unfold putR; rw [List.take_of_length_le (by omega)]; simp
    have hf40 := Sh.reList e39 (M.shr' 0 rfl)
    refine ⟨accj_, ?_, M.close [] rfl (by decide) ⟨hf40, trivial⟩⟩
    rfl
 ·
  have h12p := dF h12
  rw [h12]
  refine WL.pass rfl (WL.pass rfl (WL.pass rfl (WL.pass rfl (WL.pass rfl (WL.pass rfl (WL.pass rfl (wS (vB false) rfl (Step.pick (t := false) rfl rfl) (WL.nil ?_))))))))
  refine W.cond (t := false) rfl (fun h => by cases h) (fun _ => ?_)
  refine W.exit (thn_exit (thn_exit ?_))
  refine inBlk_hit ?_
  refine W.seq' ?_
  replace M := M.rechunk 0 (c' := oQ acci_ ((delL l k).takeWhile fun a => sLt a.key k)) rfl (by rw [takeW_of (i := i_) (fun j u h1 h2 => by simpa using hi10 j u h1 h2) (.inl (by omega))])
  refine W.region rfl (wM acci_ (wM (vS k) (wM (vI n) (wP (Value.agg #[(vS k), (vI n)]) ?_))))
  refine WL.new (obj := .cells #[(vS k), (vI n)] 108) (fun b => .slice (some ⟨b, 0, none⟩) 1 1) M rfl (fun w => Step.make (by kernel_rfl)) (fun b41 w42 hb41 M => ?_)
  refine WL.does rfl (M.appendF ((delL l k).takeWhile fun a => sLt a.key k) ([(⟨k, n⟩ : THit)] : List THit) (sv := (Value.slice (some ⟨b41, 0, none⟩) 1 1)) 1 Try.un27 Try.el108 rfl (by decide) rfl rfl rfl (SlAt.of_blk (M.blk 0 rfl) rfl (by decide)) hitE_cel (by have := htw_; simp only [maxLen, List.length_nil, List.length_cons, List.length_append]; omega) (by have := htw_; (try simp only [List.length_nil, List.length_cons, List.length_append]); omega)) ?_
  rintro v43 w44 M
  have sl45 : IsSl v43 := SlAt.isSl (oW (M.chunk 1 rfl).inv)
  refine wA v43 (WL.nil (W.seq' (wR (wA (vI 0) (WL.nil (W.block ?_))))))
  replace M := M.loseI 0
  replace M : Mem _ _ _ [oQ v43 (((delL l k).takeWhile fun a => sLt a.key k) ++ ([(⟨k, n⟩ : THit)] : List THit))] [fR v3 (delL l k), fR v l] _ := M
  replace M := M.rechunk 0 (c' := oQ v43 ((((delL l k).takeWhile fun a => sLt a.key k) ++ ([(⟨k, n⟩ : THit)] : List THit)) ++ ((delL l k).take 0).filter fun a => sLt k a.key)) rfl (by simp)
  replace M := M.sel (L' := [oQ v43 ((((delL l k).takeWhile fun a => sLt a.key k) ++ ([(⟨k, n⟩ : THit)] : List THit)) ++ ((delL l k).take 0).filter fun a => sLt k a.key)]) [0] rfl (by decide)
  refine W.loop (fun kk ρ w' => ∃ (j_ : Nat) (accj_ : Value), ((j_ ≤ (delL l k).length) ∧ kk = (delL l k).length - j_) ∧ ρ.has [(1, (vS k)), (6, vZ), (7, accj_), (8, v3), (10, (vI ↑j_))] ∧ Mem G (fun _ => False) w [oQ accj_ ((((delL l k).takeWhile fun a => sLt a.key k) ++ ([(⟨k, n⟩ : THit)] : List THit)) ++ ((delL l k).take j_).filter fun a => sLt k a.key)] [fR v3 (delL l k), fR v l]  w') _ ⟨0, _, ⟨(Nat.zero_le _), rfl⟩, ⟨rfl, rfl, rfl, rfl, rfl, rfl, rfl⟩, M⟩ ?_
  rintro _ ρ47 w46 ⟨j_, accj_, ⟨hi48, rfl⟩, hρ, M⟩
  obtain ⟨ρ47, rfl⟩ := hρ.know
  clear hρ
  have sl49 : IsSl accj_ := SlAt.isSl (oW (M.chunk 0 rfl).inv)
  have hacf := Nat.le_trans (List.length_filter_le (fun a : THit => sLt k a.key) ((delL l k).take j_)) (by rw [List.length_take]; exact Nat.min_le_right ..)
  have hac2 : ((((delL l k).takeWhile fun a => sLt a.key k) ++ ([(⟨k, n⟩ : THit)] : List THit)) ++ ((delL l k).take j_).filter fun a => sLt k a.key).length ≤ 1000000 := by simp only [List.length_append, List.length_cons, List.length_nil]; omega
  refine W.seq' (wR (wM (vI ↑j_) (wM v3 (wS (vI (↑((delL l k).length))) rfl (Step.lenSl Try.un27 rfl (M.rep 0 rfl)) (wP (vB (decide ((↑j_ : Int) < (↑((delL l k).length) : Int)))) (WL.nil ?_))))))
  refine W.cond (t := decide ((↑j_ : Int) < (↑((delL l k).length) : Int))) rfl (fun h50 => ?_) (fun h50 => ?_)
  ·
   have h50p := dT h50
   refine W.skip (W.seq' (W.block (wR (wM v3 (wM (vI ↑j_) ?_)))))
   obtain ⟨cap52, hb51⟩ := SlAt.base (M.rep 0 rfl) (by omega)
   obtain ⟨x53, hx53⟩ := elem_of_lt (xs := delL l k) (i := j_) (by omega)
   refine wS (vQ v3 j_ 2) rfl (sX j_ Try.un27 Try.el108 rfl rfl hb51) (wP (vQ v3 j_ 2) (wS (vS x53.key) rfl (Step.loadE (k := 0) Try.sc9 (flat_ec (M.rep 0 rfl) hx53 hitE_len) (by decide) rfl rfl) (wM (vS k) (wP (vB (!(sLt x53.key k || x53.key.toList == k.toList))) (WL.nil ?_)))))
   refine W.cond (t := !(sLt x53.key k || x53.key.toList == k.toList)) rfl (fun h54 => ?_) (fun h54 => ?_)
   ·
    refine W.region rfl (wM accj_ (wM v3 (wM (vI ↑j_) (wS (vQ v3 j_ 2) rfl (sX j_ Try.un27 Try.el108 rfl rfl hb51) (wS (Value.agg #[(vS x53.key), (vI x53.val)]) rfl (Step.loadEN (k := 0) (cs' := [(vS x53.key), (vI x53.val)]) Try.ag108 (flat_ec (M.rep 0 rfl) hx53 hitE_len) (by decide) rfl rfl rfl) ?_)))))
    refine WL.new (obj := .cells #[(vS x53.key), (vI x53.val)] 108) (fun b => .slice (some ⟨b, 0, none⟩) 1 1) M rfl (fun w => Step.make (by kernel_rfl)) (fun b55 w56 hb55 M => ?_)
    refine WL.does rfl (M.appendF ((((delL l k).takeWhile fun a => sLt a.key k) ++ ([(⟨k, n⟩ : THit)] : List THit)) ++ ((delL l k).take j_).filter fun a => sLt k a.key) ([x53] : List THit) (sv := (Value.slice (some ⟨b55, 0, none⟩) 1 1)) 1 Try.un27 Try.el108 rfl (by decide) rfl rfl rfl (SlAt.of_blk (M.blk 0 rfl) rfl (by decide)) hitE_cel (by have := hac2; simp only [maxLen, List.length_nil, List.length_cons, List.length_append]; omega) (by have := hac2; (try simp only [List.length_nil, List.length_cons, List.length_append]); omega)) ?_
    rintro v57 w58 M
    have sl59 : IsSl v57 := SlAt.isSl (oW (M.chunk 1 rfl).inv)
    refine wA v57 (WL.nil (W.region rfl (wM (vI ↑j_) (wS (vI (↑j_ + 1)) rfl (Step.add rfl rfl (wrap_i64 (by omega))) (wA (vI (↑j_ + 1)) (WL.nil ?_))))))
    replace M := M.rechunk 1 (c' := oQ v57 ((((delL l k).takeWhile fun a => sLt a.key k) ++ ([(⟨k, n⟩ : THit)] : List THit)) ++ ((delL l k).take (j_ + 1)).filter fun a => sLt k a.key)) rfl (by rw [filtY (p := fun a : THit => sLt k a.key) hx53 (by have h_ := h54; simpa [sGt, sLe] using h_), ← List.append_assoc])
    replace M := M.sel (L' := [oQ v57 ((((delL l k).takeWhile fun a => sLt a.key k) ++ ([(⟨k, n⟩ : THit)] : List THit)) ++ ((delL l k).take (j_ + 1)).filter fun a => sLt k a.key)]) [1] rfl (by decide)
    exact ⟨_, (by omega), j_ + 1, v57, ⟨(by omega), rfl⟩, ⟨rfl, rfl, rfl, rfl, rfl, rfl, rfl⟩, M⟩
   ·
    refine W.skip (W.region rfl (wM (vI ↑j_) (wS (vI (↑j_ + 1)) rfl (Step.add rfl rfl (wrap_i64 (by omega))) (wA (vI (↑j_ + 1)) (WL.nil ?_)))))
    replace M := M.rechunk 0 (c' := oQ accj_ ((((delL l k).takeWhile fun a => sLt a.key k) ++ ([(⟨k, n⟩ : THit)] : List THit)) ++ ((delL l k).take (j_ + 1)).filter fun a => sLt k a.key)) rfl (by rw [filtN (p := fun a : THit => sLt k a.key) hx53 (by have h_ := h54; simpa [sGt, sLe] using h_)])
    exact ⟨_, (by omega), j_ + 1, accj_, ⟨(by omega), rfl⟩, ⟨rfl, rfl, rfl, rfl, rfl, rfl, rfl⟩, M⟩
  ·
   have h50p := dF h50
   refine W.exit (thn_exit (thn_exit ?_))
   refine inBlk_hit ?_
   refine wR (wM accj_ (wA accj_ (WL.nil ?_)))
   refine W.ret ?_
   refine ⟨.inl rfl, accj_, ?_, ?_⟩
   · exact ⟨rfl, (Res.r1 (show RV _ _ _ (.tmp 6) accj_ from by exact rfl))⟩
   replace M := M.shareOwn 0 rfl
   have e60 : putR l (⟨k, n⟩ : THit) = ((((delL l k).takeWhile fun a => sLt a.key k) ++ ([(⟨k, n⟩ : THit)] : List THit)) ++ ((delL l k).take j_).filter fun a => sLt k a.key) := by
    unfold putR; rw [List.take_of_length_le (by omega)]; simp
   have hf61 := Sh.reList e60 (M.shr' 0 rfl)
   refine ⟨accj_, ?_, M.close [] rfl (by decide) ⟨hf61, trivial⟩⟩
   rfl
end Go.Proofs
namespace Tp
open Go
structure TAct where
  do_ : Int
  k : ByteArray
  v : Int
deriving DecidableEq, Inhabited
def actE (a : TAct) : List Value := [.int .i64 a.do_, .string a.k, .int .i64 a.v]
theorem actE_len (a : TAct) : (actE a).length = 3 := rfl
theorem actE_cel (a : TAct) : Step.Cellish (actE a) := cel_cons rfl (cel_cons rfl (cel_cons rfl cel_nil))
section
variable {l : List TAct} {i : Nat} {x : TAct} {m : Int} {row : List THit}
theorem map_snoc {α β : Type} {f : α → β} {l : List α} {i : Nat} {x : α} (hx : l[i]? = some x) : (l.take (i + 1)).map f = (l.take i).map f ++ ([f x] : List β) := by rw [← take_snoc hx]; simp
end
end Tp
namespace Tp
def rowE (l : List ByteArray) : Nat → List THit
  | 0 => []
  | i + 1 => match l[i]? with | some k => putR (rowE l i) ⟨k, i⟩ | none => rowE l i
section
variable {l : List ByteArray} {i n k : Nat} {x : ByteArray} {row : List THit}
theorem rowE_succ (hx : l[i]? = some x) : rowE l (i + 1) = putR (rowE l i) ⟨x, (i : Int)⟩ := by
  show (match l[i]? with | some k => putR (rowE l i) ⟨k, i⟩ | none => rowE l i) = _
  rw [hx]
end
end Tp
set_option maxRecDepth 100000
namespace Go.Proofs
open Go Tp
theorem Try.un9 : Und Try.prog 9 (.string) := by unfold Und; kernel_rfl
theorem kit_pick {G : Nat → Prop} {w : World} (i : Int) (n : Int)  (hn : n ≤ 1000000000) (M : Mem G (fun _ => False) w [] [] w) : Rets Try.prog 16 #[(vI i), (vI n)] w fun r w' => r = (vI (pickI i n)) ∧ Mem G (fun _ => False) w [] [] w' := by
 refine Rets.enter 14 _ Try.func16 rfl Try.ntmps16 Try.results16 (by simp) ?_
 refine wR (wA (vI 0) (WL.nil (W.seq' (wR (wM (vI n) (wP (vB (decide ((n : Int) ≤ (0 : Int)))) (WL.nil ?_)))))))
 refine W.cond (t := decide ((n : Int) ≤ (0 : Int))) rfl (fun h1 => ?_) (fun h1 => ?_)
 ·
  have h1p := dT h1
  refine wR (wA (vI 0) (WL.nil ?_))
  refine W.ret ?_
  refine ⟨.inl rfl, (vI 0), ?_, ?_⟩
  · exact ⟨rfl, (Res.r1 (show RV _ _ _ (.tmp 4) (vI 0) from by exact rfl))⟩
  refine ⟨?_, M.close [] rfl (by decide) trivial⟩
  refine congrArg (Value.int .i64) ?_
  unfold pickI
  first | rw [if_pos (by omega)] | rw [if_neg (by omega)]
 ·
  have h1p := dF h1
  have htb := fun h0 => tmod_bounds (a := i) (b := n) h0
  refine W.skip (wR (wM (vI i) (wM (vI n) (wS (vI (i.tmod n)) rfl (Step.rem rfl rfl (by omega)) (wM (vI n) (wS (vI (i.tmod n + n)) rfl (Step.add rfl rfl (wrap_i64 (by omega))) (wM (vI n) (wS (vI ((i.tmod n + n).tmod n)) rfl (Step.rem rfl rfl (by omega)) (wA (vI ((i.tmod n + n).tmod n)) (WL.nil ?_))))))))))
  refine W.ret ?_
  refine ⟨.inl rfl, (vI ((i.tmod n + n).tmod n)), ?_, ?_⟩
  · exact ⟨rfl, (Res.r1 (show RV _ _ _ (.tmp 4) (vI ((i.tmod n + n).tmod n)) from by exact rfl))⟩
  refine ⟨?_, M.close [] rfl (by decide) trivial⟩
  refine congrArg (Value.int .i64) ?_
  unfold pickI
  first | rw [if_pos (by omega)] | rw [if_neg (by omega)]
end Go.Proofs
set_option maxRecDepth 100000
namespace Go.Proofs
open Go Tp
theorem Try.en16 : Enters Try.prog 16 := fun _ _ => by kernel_rfl
theorem Try.en18 : Enters Try.prog 18 := fun _ _ => by kernel_rfl
theorem Try.en19 : Enters Try.prog 19 := fun _ _ => by kernel_rfl
theorem Try.en39 : Enters Try.prog 39 := fun _ _ => by kernel_rfl
theorem Try.en60 : Enters Try.prog 60 := fun _ _ => by kernel_rfl
theorem Try.en72 : Enters Try.prog 72 := fun _ _ => by kernel_rfl
theorem Try.en78 : Enters Try.prog 78 := fun _ _ => by kernel_rfl
theorem Try.fl41 : (Try.prog.fieldsOf 41).toList = [⟨ "Key", 9, 0, false, "", "", 0⟩, ⟨ "Val", 3, 1, false, "", "", 16⟩] := by kernel_rfl
theorem Try.eg41 : Try.prog.eqGuardType Try.prog.depth 41 = false := by kernel_rfl
theorem Try.eq41 (d : Nat) (a0 : ByteArray) (a1 : Int) (b0 : ByteArray) (b1 : Int) : ∀ w, (Op.equalIn (d + 2) 41 (Value.agg #[(vS a0), (vI a1)]) (Value.agg #[(vS b0), (vI b1)])).run Try.prog w = .ok ((a0.toList == b0.toList) && (((a1 : Int) == (b1 : Int)) && true)) w :=
  (eq_struct (by kernel_rfl) (by kernel_rfl) (Try.fl41) (eqF_cons (x := (vS a0)) (y := (vS b0)) (by decide) (fun _ => by kernel_rfl) (fun _ => by kernel_rfl) (fun w => run_equalIn_string w _ _ _ _ (by kernel_rfl)) (eqF_cons (x := (vI a1)) (y := (vI b1)) (by decide) (fun _ => by kernel_rfl) (fun _ => by kernel_rfl) (fun w => run_equalIn_int w _ _ _ .i64 _ _ (by kernel_rfl)) eqF_nil)))
end Go.Proofs
set_option maxRecDepth 100000
namespace Go.Proofs
open Go Tp
theorem Try.en30 : Enters Try.prog 30 := fun _ _ => by kernel_rfl
end Go.Proofs
namespace Tp
open Go
structure Scn where
  frm : ByteArray
  to_ : ByteArray
  back : Bool
  at_ : ByteArray
  told : Bool
deriving DecidableEq, Inhabited
def withinS (s : Scn) (k : ByteArray) : Bool := !(sLt k s.frm) && (decide (s.to_ = sZ) || sLt k s.to_)
def leftB (s : Scn) (k : ByteArray) : Bool := withinS s k && (!s.told || (if s.back then sLt k s.at_ else sLt s.at_ k))
def startS (s : Scn) : ByteArray :=
  if !s.back && (!s.told || sLt s.at_ s.frm) then s.frm else if s.back && (!s.told || (!(decide (s.to_ = sZ)) && sLt s.to_ s.at_)) then s.to_ else s.at_
def insideS (s : Scn) : Bool := s.told && decide (startS s = s.at_)
def look1 (s : Scn) : Bool := s.back && !insideS s && decide (s.to_ = sZ)
def look2 (s : Scn) : Bool := s.back && !(look1 s)
def look3 (s : Scn) : Bool := !s.back && insideS s
def look4 (s : Scn) : Bool := !s.back && !insideS s
def restR (s : Scn) (row : List THit) : List THit := if s.back then (row.filter fun a => leftB s a.key).reverse else row.filter fun a => leftB s a.key
def headT (l : List THit) : THit × Bool := match l with | [] => noHit | a :: _ => (a, true)
def peekR (s : Scn) (row : List THit) : THit × Bool := headT (restR s row)
def nextR (s : Scn) (row : List THit) : Scn := if (peekR s row).2 then { s with at_ := (peekR s row).1.key, told := true } else s
def chkS (s : Scn) (h : THit × Bool) : THit × Bool := if h.2 && withinS s h.1.key then h else noHit
section
variable {s : Scn} {row l r : List THit} {p q : ByteArray → Bool} {a : THit} {k x y : ByteArray} {n : Nat}
theorem head_find (f : THit → Bool) : headT (l.filter f) = match l.find? f with | some a => (a, true) | none => noHit := by
  induction l with
  | nil => rfl
  | cons a l ih =>
    rw [List.filter_cons, List.find?_cons]
    cases f a <;> simp [headT, ih]
    exact ih
theorem peek_fwd (hb : s.back = false) : peekR s row = firstL row (leftB s) noHit := by
  unfold peekR restR firstL
  rw [hb, if_neg (by simp), head_find]
  cases List.find? (fun a => leftB s a.key) row <;> rfl
theorem peek_bwd (hb : s.back = true) : peekR s row = lastL row (leftB s) noHit := by
  unfold peekR restR lastL firstL
  rw [hb, if_pos rfl, ← List.filter_reverse, head_find]
  cases List.find? (fun a => leftB s a.key) row.reverse <;> rfl
theorem first_and (hu : upT row) (hq : ∀ x y, sLt x y = true → q y = true → q x = true) : firstL row (fun k => p k && q k) noHit = if (firstL row p noHit).2 && q (firstL row p noHit).1.key then firstL row p noHit else noHit := by
  induction row with
  | nil => rfl
  | cons a l ih =>
    have hu2 := upT_cons.1 hu
    by_cases hp : p a.key = true
    · rw [firstL_hit (z := a) hp]
      by_cases hqa : q a.key = true
      · rw [firstL_hit (z := a) (by simp [hp, hqa])]; simp [hqa]
      · rw [firstL_none (fun b hb => ?_)]
        · simp [hqa]
        · rcases List.mem_cons.1 hb with rfl | hb
          · simp [hqa]
          · have := hu2.1 b hb
            cases hqb : q b.key with
            | false => simp
            | true => exact absurd (hq _ _ this hqb) hqa
    · have hp : p a.key = false := by simpa using hp
      have e1 : firstL (a :: l) p noHit = firstL l p noHit := firstL_skip (P := [a]) fun b hb => by rw [List.mem_singleton.1 hb]; exact hp
      have e2 : firstL (a :: l) (fun k => p k && q k) noHit = firstL l (fun k => p k && q k) noHit := firstL_skip (P := [a]) fun b hb => by rw [List.mem_singleton.1 hb]; simp [hp]
      rw [e1, e2, ih hu2.2]
theorem last_and (hu : upT row) (hq : ∀ x y, sLt x y = true → q x = true → q y = true) : lastL row (fun k => p k && q k) noHit = if (lastL row p noHit).2 && q (lastL row p noHit).1.key then lastL row p noHit else noHit := by
  induction row with
  | nil => rfl
  | cons a l ih =>
    have hu2 := upT_cons.1 hu
    have e : ∀ f, lastL (a :: l) f noHit = lastL l f (lastL [a] f noHit) := fun f => lastL_app (P := [a])
    have one : ∀ f : ByteArray → Bool, lastL [a] f noHit = if f a.key then (a, true) else noHit := fun f => by
      unfold lastL firstL; cases h : f a.key <;> simp [h]
    have some_ : ∀ (f : ByteArray → Bool) (b : THit × Bool), lastL l f b = if (lastL l f noHit).2 then lastL l f noHit else b := fun f b => by
      unfold lastL firstL; cases l.reverse.find? (fun a => f a.key) <;> simp [noHit]
    have mem : (lastL l p noHit).2 = true → (lastL l p noHit).1 ∈ l := by
      unfold lastL firstL
      cases h : l.reverse.find? (fun a => p a.key) with
      | none => intro h2; cases h2
      | some z => intro _; exact List.mem_reverse.1 (List.mem_of_find?_eq_some h)
    rw [e, e, some_, some_ p, one, one, ih hu2.2]
    by_cases h2 : (lastL l p noHit).2 = true
    · rw [h2]
      have hlt := hu2.1 _ (mem h2)
      by_cases hq2 : q (lastL l p noHit).1.key = true
      · simp [hq2, h2]
      · have hqa : q a.key = false := by
          cases h : q a.key with
          | false => rfl
          | true => exact absurd (hq _ _ hlt h) hq2
        have hq2 : q (lastL l p noHit).1.key = false := by simpa using hq2
        rw [hq2, hqa]
        simp [show noHit.2 = false from rfl]
        intro _ h4; rw [hq2] at h4; cases h4
    · have h2 : (lastL l p noHit).2 = false := by simpa using h2
      rw [h2]
      cases hp : p a.key <;> simp [noHit, hp]
theorem chk_fwd (hb : s.back = false) (hu : upT row) (hp : ∀ k, p k = true → sLt k s.frm = false) (hl : ∀ k, leftB s k = (p k && (decide (s.to_ = sZ) || sLt k s.to_))) : peekR s row = chkS s (firstL row p noHit) := by
  rw [peek_fwd hb, show leftB s = fun k => p k && (decide (s.to_ = sZ) || sLt k s.to_) from funext hl, first_and hu (q := fun k => decide (s.to_ = sZ) || sLt k s.to_) (fun x y hxy hy => by
    simp only [Bool.or_eq_true] at hy ⊢
    exact hy.imp id fun h => sLt_trans hxy h)]
  unfold chkS
  cases h2 : (firstL row p noHit).2 with
  | false => rfl
  | true =>
    have : p (firstL row p noHit).1.key = true := by
      unfold firstL at h2 ⊢
      cases h : row.find? (fun a => p a.key) with
      | none => rw [h] at h2; cases h2
      | some z => exact List.find?_some (p := fun a : THit => p a.key) h
    unfold withinS
    rw [hp _ this]; simp
theorem chk_bwd (hb : s.back = true) (hu : upT row) (hp : ∀ k, p k = true → (decide (s.to_ = sZ) || sLt k s.to_) = true) (hl : ∀ k, leftB s k = (p k && !(sLt k s.frm))) : peekR s row = chkS s (lastL row p noHit) := by
  rw [peek_bwd hb, show leftB s = fun k => p k && !(sLt k s.frm) from funext hl, last_and hu (q := fun k => !(sLt k s.frm)) (upP_ge s.frm)]
  unfold chkS
  cases h2 : (lastL row p noHit).2 with
  | false => rfl
  | true =>
    have : p (lastL row p noHit).1.key = true := by
      unfold lastL firstL at h2 ⊢
      cases h : row.reverse.find? (fun a => p a.key) with
      | none => rw [h] at h2; cases h2
      | some z => exact List.find?_some (p := fun a : THit => p a.key) h
    unfold withinS
    rw [hp _ this]; simp
theorem sLt_ne_lt (h1 : sLt x y = false) (h2 : x ≠ y) : sLt y x = true := by
  cases h : sLt y x with
  | true => rfl
  | false => exact absurd (sLt_total h1 h) h2
theorem sLt_of_le (h1 : sLt x y = true) (h2 : sLt k y = false) : sLt x k = true := by
  by_cases e : y = k
  · rw [← e]; exact h1
  · exact sLt_trans h1 (sLt_ne_lt h2 fun h => e h.symm)
theorem start_fwd (hb : s.back = false) : startS s = if !s.told || sLt s.at_ s.frm then s.frm else s.at_ := by unfold startS; simp [hb]
theorem start_bwd (hb : s.back = true) : startS s = if !s.told || (!(decide (s.to_ = sZ)) && sLt s.to_ s.at_) then s.to_ else s.at_ := by unfold startS; simp [hb]
theorem look3_fact (h : look3 s = true) : s.back = false ∧ s.told = true ∧ startS s = s.at_ ∧ sLt s.at_ s.frm = false := by
  unfold look3 insideS at h
  simp only [Bool.and_eq_true, Bool.not_eq_true', decide_eq_true_eq] at h
  obtain ⟨h1, h2, h3⟩ := h
  refine ⟨h1, h2, h3, ?_⟩
  rw [start_fwd h1, h2] at h3
  cases h4 : sLt s.at_ s.frm with
  | false => rfl
  | true =>
    rw [h4] at h3
    simp at h3
    rw [h3, sLt_irrefl] at h4; cases h4
theorem look4_fact (h : look4 s = true) : s.back = false ∧ startS s = s.frm ∧ (s.told = true → sLt s.at_ s.frm = true) := by
  unfold look4 insideS at h
  simp only [Bool.and_eq_true, Bool.not_eq_true'] at h
  obtain ⟨h1, h2⟩ := h
  refine ⟨h1, ?_, fun ht => ?_⟩
  · rw [start_fwd h1] at h2 ⊢
    by_cases h3 : (!s.told || sLt s.at_ s.frm) = true
    · rw [if_pos h3]
    · rw [if_neg h3] at h2; simp at h3; rw [h3.1] at h2; simp at h2
  · rw [start_fwd h1, ht] at h2
    cases h4 : sLt s.at_ s.frm with
    | true => rfl
    | false => rw [h4] at h2; simp at h2
theorem look1_fact (h : look1 s = true) : s.back = true ∧ s.to_ = sZ ∧ s.told = false := by
  unfold look1 insideS at h
  simp only [Bool.and_eq_true, Bool.not_eq_true', decide_eq_true_eq] at h
  obtain ⟨⟨h1, h2⟩, h3⟩ := h
  refine ⟨h1, h3, ?_⟩
  rw [start_bwd h1, h3] at h2
  cases ht : s.told with
  | false => rfl
  | true => rw [ht] at h2; simp at h2
theorem look2_fact (h : look2 s = true) : s.back = true ∧ ((s.told = true ∧ startS s = s.at_ ∧ (s.to_ = sZ ∨ sLt s.to_ s.at_ = false)) ∨ (s.to_ ≠ sZ ∧ startS s = s.to_ ∧ (s.told = true → sLt s.to_ s.at_ = true))) := by
  unfold look2 look1 insideS at h
  simp only [Bool.and_eq_true, Bool.not_eq_true'] at h
  obtain ⟨h1, h2⟩ := h
  refine ⟨h1, ?_⟩
  rw [h1, start_bwd h1] at h2
  rw [start_bwd h1]
  cases ht : s.told <;> by_cases hz : s.to_ = sZ <;> cases hl : sLt s.to_ s.at_ <;> simp_all
theorem peek3 (hu : upT row) (h : look3 s = true) : peekR s row = chkS s (afterL row (startS s)) := by
  obtain ⟨h1, h2, h3, h4⟩ := look3_fact h
  rw [h3]
  refine chk_fwd h1 hu (p := fun x => sLt s.at_ x) (fun k hk => ?_) fun k => ?_
  · cases h5 : sLt k s.frm with
    | false => rfl
    | true => rw [sLt_trans hk h5] at h4; cases h4
  · unfold leftB withinS
    rw [h1, h2]
    cases h6 : sLt s.at_ k with
    | false => simp
    | true =>
      have : sLt k s.frm = false := by
        cases h5 : sLt k s.frm with
        | false => rfl
        | true => rw [sLt_trans h6 h5] at h4; cases h4
      simp [this]
theorem peek4 (hu : upT row) (h : look4 s = true) : peekR s row = chkS s (fromL row (startS s)) := by
  obtain ⟨h1, h2, h3⟩ := look4_fact h
  rw [h2]
  refine chk_fwd h1 hu (p := fun x => !(sLt x s.frm)) (fun k hk => by simpa using hk) fun k => ?_
  unfold leftB withinS
  rw [h1]
  cases h5 : sLt k s.frm with
  | true => simp
  | false =>
    cases ht : s.told with
    | false => simp
    | true => simp [sLt_of_le (h3 ht) h5]
theorem peek1 (hu : upT row) (h : look1 s = true) : peekR s row = chkS s (tailL row) := by
  obtain ⟨h1, h2, h3⟩ := look1_fact h
  refine chk_bwd h1 hu (p := fun _ => true) (fun k _ => by simp [h2]) fun k => ?_
  unfold leftB withinS; simp [h2, h3]
theorem peek2 (hu : upT row) (h : look2 s = true) : peekR s row = chkS s (beforeL row (startS s)) := by
  obtain ⟨h1, h2⟩ := look2_fact h
  rcases h2 with ⟨h2, h3, h4⟩ | ⟨h2, h3, h4⟩
  · rw [h3]
    have key : ∀ k, sLt k s.at_ = true → (decide (s.to_ = sZ) || sLt k s.to_) = true := fun k hk => by
      rcases h4 with h4 | h4
      · simp [h4]
      · have : sLt k s.to_ = true := sLt_of_le hk h4
        simp [this]
    refine chk_bwd h1 hu (p := fun x => sLt x s.at_) key fun k => ?_
    unfold leftB withinS
    rw [h1, h2]
    cases h6 : sLt k s.at_ with
    | false => simp
    | true => rw [key k h6]; simp
  · rw [h3]
    refine chk_bwd h1 hu (p := fun x => sLt x s.to_) (fun k hk => by simp [hk]) fun k => ?_
    unfold leftB withinS
    rw [h1]
    cases h6 : sLt k s.to_ with
    | false => simp [h2]
    | true =>
      cases ht : s.told with
      | false => simp
      | true => simp [sLt_trans h6 (h4 ht)]
theorem look_all (h1 : look1 s = false) (h2 : look2 s = false) (h3 : look3 s = false) : look4 s = true := by
  unfold look2 at h2; rw [h1] at h2
  unfold look3 at h3
  unfold look4
  cases hb : s.back <;> simp_all
theorem next_hit (h : (peekR s row).2 = true) : nextR s row = { s with at_ := (peekR s row).1.key, told := true } := if_pos h
theorem next_no (h : (peekR s row).2 = false) : nextR s row = s := if_neg (by simp [h])
theorem rest_up (hu : upT row) : upT (row.filter fun a => leftB s a.key) := hu.filter _
theorem left_next (ha : leftB s k = true) : leftB { s with at_ := k, told := true } x = ((if s.back then sLt x k else sLt k x) && leftB s x) := by
  obtain ⟨f, t, b, z, td⟩ := s
  unfold leftB withinS at *
  cases b with
  | false =>
    simp only [Bool.false_eq_true, if_false, Bool.not_true, Bool.false_or] at ha ⊢
    cases h : sLt k x with
    | false => simp
    | true =>
      cases td with
      | false => simp
      | true =>
        simp only [Bool.not_true, Bool.false_or, Bool.and_eq_true] at ha
        simp [sLt_trans ha.2 h]
  | true =>
    simp only [if_true, Bool.not_true, Bool.false_or] at ha ⊢
    cases h : sLt x k with
    | false => simp
    | true =>
      cases td with
      | false => simp
      | true =>
        simp only [Bool.not_true, Bool.false_or, Bool.and_eq_true] at ha
        simp [sLt_trans h ha.2]
theorem rest_next (hu : upT row) (h : restR s row = a :: r) : (peekR s row) = (a, true) ∧ restR (nextR s row) row = r := by
  have hp : peekR s row = (a, true) := by unfold peekR; rw [h]; rfl
  refine ⟨hp, ?_⟩
  have hm : a ∈ row.filter fun a => leftB s a.key := by
    have : a ∈ restR s row := by rw [h]; simp
    unfold restR at this
    split at this
    · exact List.mem_reverse.1 this
    · exact this
  have hla := (List.mem_filter.1 hm).2
  rw [next_hit (by rw [hp]), hp]
  have e : (row.filter fun b => leftB { s with at_ := a.key, told := true } b.key) = (row.filter fun b => leftB s b.key).filter fun b => if s.back then sLt b.key a.key else sLt a.key b.key := by
    rw [List.filter_filter]
    exact List.filter_congr fun b _ => left_next hla
  have hu2 := rest_up (s := s) hu
  unfold restR at h ⊢
  simp only at h ⊢
  rw [e]
  cases hb : s.back with
  | false =>
    rw [hb, if_neg (by simp)] at h
    rw [h] at hu2
    obtain ⟨h2, h3⟩ := upT_cons.1 hu2
    simp only [Bool.false_eq_true, if_false]
    rw [h, List.filter_cons, if_neg (by simp [sLt_irrefl])]
    exact List.filter_eq_self.2 fun b hb => h2 b hb
  | true =>
    rw [hb, if_pos rfl] at h
    have h' : (row.filter fun a => leftB s a.key) = r.reverse ++ [a] := by
      have := congrArg List.reverse h; rw [List.reverse_reverse, List.reverse_cons] at this; exact this
    rw [h'] at hu2
    have h2 := (upT_app.1 hu2).2.2
    simp only [if_true]
    rw [h', List.filter_append, List.filter_cons, if_neg (by simp [sLt_irrefl]), List.filter_nil, List.append_nil]
    rw [List.filter_eq_self.2 fun b hb => h2 b hb a (by simp), List.reverse_reverse]
def stepsN : Nat → Scn → List THit → Scn
  | 0, s, _ => s
  | n + 1, s, row => nextR (stepsN n s row) row
theorem next_back : (nextR s row).back = s.back ∧ (nextR s row).frm = s.frm ∧ (nextR s row).to_ = s.to_ := by unfold nextR; split <;> exact ⟨rfl, rfl, rfl⟩
theorem steps_rest (hu : upT row) : ∀ n, restR (stepsN n s row) row = (restR s row).drop n
  | 0 => rfl
  | n + 1 => by
    have ih := steps_rest hu n
    show restR (nextR (stepsN n s row) row) row = _
    cases h : (restR s row).drop n with
    | nil =>
      rw [h] at ih
      rw [next_no (by unfold peekR; rw [ih]; rfl), ih, ← List.drop_drop, h]; rfl
    | cons a r =>
      rw [h] at ih
      rw [(rest_next hu ih).2, ← List.drop_drop, h]; rfl
theorem steps_peek (hu : upT row) (n : Nat) : peekR (stepsN n s row) row = headT ((restR s row).drop n) := by unfold peekR; rw [steps_rest hu]
theorem peek_some (hu : upT row) (h : (peekR (stepsN n s row) row).2 = true) : (restR s row)[n]? = some (peekR (stepsN n s row) row).1 := by
  rw [steps_peek hu] at h ⊢
  cases hd : (restR s row).drop n with
  | nil => rw [hd] at h; cases h
  | cons a r =>
    have : ((restR s row).drop n)[0]? = some a := by rw [hd]; rfl
    rw [List.getElem?_drop] at this
    simpa [headT] using this
theorem peek_none (hu : upT row) (h : (peekR (stepsN n s row) row).2 = false) : (restR s row).length ≤ n := by
  rw [steps_peek hu] at h
  cases hd : (restR s row).drop n with
  | nil => exact List.drop_eq_nil_iff.1 hd
  | cons a r => rw [hd] at h; cases h
theorem peek_iff (hu : upT row) : (peekR (stepsN n s row) row).2 = decide (n < (restR s row).length) := by
  cases h : (peekR (stepsN n s row) row).2 with
  | true => have := (List.getElem?_eq_some_iff.1 (peek_some hu h)).1; simp [this]
  | false => have := peek_none hu h; simp; omega
theorem steps_stay (hu : upT row) (h : (restR s row).length ≤ n) : stepsN (n + 1) s row = stepsN n s row := by
  show nextR (stepsN n s row) row = _
  exact next_no (by rw [peek_iff hu]; simp; omega)
theorem steps_min (hu : upT row) : ∀ {n}, (restR s row).length ≤ n → stepsN n s row = stepsN (restR s row).length s row := by
  intro n
  induction n with
  | zero => intro h; rw [Nat.le_zero.1 h]
  | succ n ih =>
    intro h
    rcases Nat.lt_or_ge n (restR s row).length with h' | h'
    · rw [show n + 1 = (restR s row).length by omega]
    · rw [steps_stay hu h', ih h']
theorem rest_le : (restR s row).length ≤ row.length := by
  unfold restR; split
  · rw [List.length_reverse]; exact List.length_filter_le _ _
  · exact List.length_filter_le _ _
def pageN (s : Scn) (row : List THit) (n : Int) : Nat := min n.toNat (restR s row).length
def pageL (s : Scn) (row : List THit) (n : Int) : List THit := (restR s row).take (pageN s row n)
def pageS (s : Scn) (row : List THit) (n : Int) : Scn := stepsN (pageN s row n) s row
def pageD (s : Scn) (row : List THit) (n : Int) : Bool := !(peekR (pageS s row n) row).2
def skipS (s : Scn) (k : ByteArray) : Scn × Bool := if s.told && ((s.back && !(sLt k s.at_)) || (!s.back && !(sLt s.at_ k))) then (s, false) else ({ s with at_ := k, told := true }, true)
def countR (row : List THit) (frm to_ : ByteArray) : Nat := (restR ⟨frm, to_, false, sZ, false⟩ row).length
end
end Tp
namespace Tp
open Go
def befS (s : Scn) (a b : ByteArray) : Bool := if s.back then sLt b a else sLt a b
section
variable {s s' : Scn} {row l r : List THit} {a b : THit} {k x y : ByteArray} {n m : Nat} {told : List ByteArray}
theorem getL_mem_of (hu : upT row) (ha : a ∈ row) : getL row a.key = (a.val, true) := by
  obtain ⟨i, hi⟩ := List.getElem?_of_mem ha
  refine getL_at hi (by simp) fun j u hj hu2 => ?_
  have := sLt_ne (up_yes hu hu2 hi hj)
  simpa using this
theorem rest_mem (h : a ∈ restR s row) : a ∈ row ∧ leftB s a.key = true := by
  unfold restR at h
  split at h
  · exact List.mem_filter.1 (List.mem_reverse.1 h)
  · exact List.mem_filter.1 h
theorem mem_rest (h1 : a ∈ row) (h2 : leftB s a.key = true) : a ∈ restR s row := by
  unfold restR
  split
  · exact List.mem_reverse.2 (List.mem_filter.2 ⟨h1, h2⟩)
  · exact List.mem_filter.2 ⟨h1, h2⟩
theorem rest_pair (hu : upT row) : (restR s row).Pairwise fun a b => befS s a.key b.key = true := by
  unfold restR befS
  cases hb : s.back with
  | false => simp only [Bool.false_eq_true, if_false]; exact rest_up hu
  | true =>
    simp only [if_true]
    rw [List.pairwise_reverse]
    exact rest_up hu
theorem steps_back : ∀ n, (stepsN n s row).back = s.back ∧ (stepsN n s row).frm = s.frm ∧ (stepsN n s row).to_ = s.to_
  | 0 => ⟨rfl, rfl, rfl⟩
  | n + 1 => by
    have h := steps_back n
    have h2 := next_back (s := stepsN n s row) (row := row)
    exact ⟨h2.1.trans h.1, h2.2.1.trans h.2.1, h2.2.2.trans h.2.2⟩
theorem next_left (hx : leftB (nextR s row) x = true) : leftB s x = true ∧ ((peekR s row).2 = true → befS s (peekR s row).1.key x = true) := by
  cases h : (peekR s row).2 with
  | false => rw [next_no h] at hx; exact ⟨hx, fun h2 => by cases h2⟩
  | true =>
    rw [next_hit h] at hx
    have hl : leftB s (peekR s row).1.key = true := by
      have h2 := h
      unfold peekR at h2 ⊢
      cases hr : restR s row with
      | nil => rw [hr] at h2; cases h2
      | cons a r => exact (rest_mem (s := s) (row := row) (a := a) (by rw [hr]; simp)).2
    rw [left_next hl, Bool.and_eq_true] at hx
    exact ⟨hx.2, fun _ => hx.1⟩
theorem steps_left (hu : upT row) : ∀ {n x}, leftB (stepsN n s row) x = true → leftB s x = true ∧ ∀ a, a ∈ (restR s row).take n → befS s a.key x = true := by
  intro n
  induction n with
  | zero => intro x hx; exact ⟨hx, fun a ha => by simp at ha⟩
  | succ n ih =>
    intro x hx
    obtain ⟨h1, h2⟩ := next_left (s := stepsN n s row) hx
    obtain ⟨h3, h4⟩ := ih h1
    refine ⟨h3, fun a ha => ?_⟩
    rw [List.take_succ, List.mem_append] at ha
    rcases ha with ha | ha
    · exact h4 a ha
    · cases hg : (restR s row)[n]? with
      | none => rw [hg] at ha; cases ha
      | some z =>
        rw [hg] at ha
        simp at ha
        subst ha
        have hp : (peekR (stepsN n s row) row).2 = true := by rw [peek_iff hu]; simp; exact (List.getElem?_eq_some_iff.1 hg).1
        have := h2 hp
        have e := peek_some hu hp
        rw [hg] at e
        rw [← Option.some.inj e] at this
        unfold befS at this ⊢
        rw [(steps_back n).1] at this
        exact this
theorem page_rest (hu : upT row) (q : Int) : restR (pageS s row q) row = (restR s row).drop (pageN s row q) := steps_rest hu _
theorem page_left (hu : upT row) {q : Int} (hx : leftB (pageS s row q) x = true) : leftB s x = true ∧ ∀ a, a ∈ pageL s row q → befS s a.key x = true := steps_left hu hx
theorem page_done (hu : upT row) (q : Int) : pageD s row q = decide ((restR s row).length ≤ pageN s row q) := by
  unfold pageD pageS
  rw [peek_iff hu, ← decide_not]
  congr 1
  exact propext (by omega)
theorem page_back (q : Int) : (pageS s row q).back = s.back := (steps_back _).1
def tellOk (s : Scn) (told : List ByteArray) : Prop := (told.Pairwise fun a b => befS s a b = true) ∧ ∀ k, k ∈ told → ∀ x, leftB s x = true → befS s k x = true
theorem tell_nil : tellOk s [] := ⟨List.Pairwise.nil, fun _ h => by cases h⟩
theorem bef_back (h : s'.back = s.back) : befS s' = befS s := by funext a b; unfold befS; rw [h]
theorem tell_page (hu : upT row) (q : Int) (h : tellOk s told) : tellOk (pageS s row q) (told ++ (pageL s row q).map THit.key) := by
  have hb := bef_back (page_back (s := s) (row := row) q)
  unfold tellOk
  rw [hb]
  refine ⟨List.pairwise_append.2 ⟨h.1, ?_, fun k hk x hx => ?_⟩, fun k hk x hx => ?_⟩
  · rw [List.pairwise_map]
    exact (rest_pair hu).sublist (List.take_sublist _ _)
  · obtain ⟨a, ha, rfl⟩ := List.mem_map.1 hx
    exact h.2 k hk _ (rest_mem ((List.take_sublist _ _).subset ha)).2
  · obtain ⟨h1, h2⟩ := page_left hu hx
    rcases List.mem_append.1 hk with hk | hk
    · exact h.2 k hk x h1
    · obtain ⟨a, ha, rfl⟩ := List.mem_map.1 hk
      exact h2 a ha
def stayOk (s : Scn) (row : List THit) (told stay : List ByteArray) : Prop := ∀ k, k ∈ stay → k ∈ told ∨ ∃ a, a ∈ restR s row ∧ a.key = k
theorem stay_page {stay : List ByteArray} (hu : upT row) (q : Int) (h : stayOk s row told stay) : stayOk (pageS s row q) row (told ++ (pageL s row q).map THit.key) stay := fun k hk => by
  rcases h k hk with h1 | ⟨a, ha, rfl⟩
  · exact .inl (List.mem_append_left _ h1)
  · rw [page_rest hu]
    rw [← List.take_append_drop (pageN s row q) (restR s row)] at ha
    rcases List.mem_append.1 ha with ha | ha
    · exact .inl (List.mem_append_right _ (List.mem_map.2 ⟨a, ha, rfl⟩))
    · exact .inr ⟨a, ha, rfl⟩
theorem putR_keep (hu : upT row) {z : THit} (h : a ∈ row) (hk : a.key ≠ z.key) : a ∈ putR row z := by
  rw [putR_eq hu]
  unfold putL
  rcases Bool.eq_false_or_eq_true (sLt a.key z.key) with h1 | h1
  · exact List.mem_append_left _ (List.mem_filter.2 ⟨h, h1⟩)
  · exact List.mem_append_right _ (List.mem_cons_of_mem _ (List.mem_filter.2 ⟨h, sLt_ne_lt h1 hk⟩))
theorem stay_put {stay : List ByteArray} {z : THit} (hu : upT row) (hz : ∀ k, k ∈ stay → k ≠ z.key) (h : stayOk s row told stay) : stayOk s (putR row z) told stay := fun k hk => by
  rcases h k hk with h1 | ⟨a, ha, rfl⟩
  · exact .inl h1
  · obtain ⟨h1, h2⟩ := rest_mem ha
    exact .inr ⟨a, mem_rest (putR_keep hu h1 (hz _ hk)) h2, rfl⟩
theorem stay_del {stay : List ByteArray} {z : ByteArray} (hz : ∀ k, k ∈ stay → k ≠ z) (h : stayOk s row told stay) : stayOk s (delL row z) told stay := fun k hk => by
  rcases h k hk with h1 | ⟨a, ha, rfl⟩
  · exact .inl h1
  · obtain ⟨h1, h2⟩ := rest_mem ha
    exact .inr ⟨a, mem_rest (List.mem_filter.2 ⟨h1, by simpa using hz _ hk⟩) h2, rfl⟩
theorem putL_count (hu : upT row) {z : THit} (f : THit → Bool) : ((putL row z).filter f).length ≤ (row.filter f).length + 1 := by
  have h1 : ((putL row z).filter f).length = ((row.filter fun a => sLt a.key z.key).filter f).length + ([z].filter f).length + ((row.filter fun a => sLt z.key a.key).filter f).length := by
    unfold putL
    rw [List.filter_append, show z :: (row.filter fun a => sLt z.key a.key) = [z] ++ row.filter fun a => sLt z.key a.key from rfl, List.filter_append]
    simp only [List.length_append]; omega
  have h2 : ([z].filter f).length ≤ 1 := Nat.le_trans (List.length_filter_le _ _) (by simp)
  have h3 : ((row.filter fun a => sLt a.key z.key).filter f).length + ((row.filter fun a => sLt z.key a.key).filter f).length ≤ (row.filter f).length := by
    clear h1 h2 hu
    induction row with
    | nil => simp
    | cons a l ih =>
      cases hf : f a <;> cases ha : sLt a.key z.key <;> cases hb : sLt z.key a.key <;> simp only [List.filter_cons, ha, hb, hf, if_true, Bool.false_eq_true, if_false, List.length_cons] <;> first | omega | exact absurd hb (by rw [sLt_asymm ha]; simp)
  omega
theorem rest_len_filter : (restR s row).length = (row.filter fun a => leftB s a.key).length := by unfold restR; split <;> simp
theorem rest_put (hu : upT row) {z : THit} : (restR s (putR row z)).length ≤ (restR s row).length + 1 := by
  rw [rest_len_filter, rest_len_filter, putR_eq hu]; exact putL_count hu _
theorem rest_del {z : ByteArray} : (restR s (delL row z)).length ≤ (restR s row).length := by
  rw [rest_len_filter, rest_len_filter]
  unfold delL
  rw [List.filter_filter]
  have : (row.filter fun a => leftB s a.key && !decide (a.key = z)) = (row.filter fun a => leftB s a.key).filter fun a => !decide (a.key = z) := by rw [List.filter_filter]; congr 1; funext a; exact Bool.and_comm _ _
  rw [this]; exact List.length_filter_le _ _
theorem page_pos (hu : upT row) {q : Int} (hq : 1 ≤ q) : (restR (pageS s row q) row).length ≤ (restR s row).length - 1 := by
  rw [page_rest hu, List.length_drop]
  unfold pageN
  omega
theorem page_end (hu : upT row) {q : Int} (h : pageD s row q = true) : restR (pageS s row q) row = [] := by
  rw [page_done hu] at h
  rw [page_rest hu]
  exact List.drop_eq_nil_of_le (by simpa using h)
theorem tell_at (h : tellOk s told) {i : Nat} {a b : ByteArray} (ha : told[i - 1]? = some a) (hb : told[i]? = some b) (hi : 0 < i) : a ≠ b ∧ sLt b a = s.back := by
  obtain ⟨h1, rfl⟩ := List.getElem?_eq_some_iff.1 ha
  obtain ⟨h2, rfl⟩ := List.getElem?_eq_some_iff.1 hb
  have := List.pairwise_iff_getElem.1 h.1 (i - 1) i h1 h2 (by omega)
  unfold befS at this
  cases hbk : s.back with
  | false => rw [hbk] at this; simp only [Bool.false_eq_true, if_false] at this; exact ⟨sLt_ne this, sLt_asymm this⟩
  | true => rw [hbk] at this; simp only [if_true] at this; exact ⟨(sLt_ne this).symm, this⟩
theorem stay_end {stay : List ByteArray} (h : stayOk s row told stay) (hr : restR s row = []) : ∀ k, k ∈ stay → k ∈ told := fun k hk => by
  rcases h k hk with h1 | ⟨a, ha, _⟩
  · exact h1
  · rw [hr] at ha; cases ha
theorem rest_rev (f t : ByteArray) : restR ⟨f, t, true, sZ, false⟩ row = (restR ⟨f, t, false, sZ, false⟩ row).reverse := by
  unfold restR
  simp only [if_true, Bool.false_eq_true, if_false]
  congr 1
theorem page_all {q : Int} (h : (restR s row).length ≤ q.toNat) : pageL s row q = restR s row := by
  unfold pageL pageN
  rw [Nat.min_eq_right h, List.take_length]
theorem rev_at {α : Type} {l : List α} {i : Nat} (h : i < l.length) : l.reverse[l.length - 1 - i]? = l[i]? := by
  rw [List.getElem?_reverse (by omega)]
  congr 1; omega
end
end Tp
namespace Tp
open Go
section
variable {s : Scn} {row l : List THit} {k f t : ByteArray} {x : THit} {i n : Nat} {h : THit × Bool}
theorem chk_miss (h2 : h.2 = false) : chkS s h = noHit := by unfold chkS; rw [h2]; rfl
theorem chk_out (hw : withinS s h.1.key = false) : chkS s h = noHit := by unfold chkS; rw [hw, Bool.and_false]; rfl
theorem chk_in (h2 : h.2 = true) (hw : withinS s h.1.key = true) : chkS s h = h := by unfold chkS; rw [h2, hw]; rfl
theorem page_n {q : Int} (h1 : (n : Int) ≤ q ∨ n = 0) (h2 : n ≤ (restR s row).length) (h3 : q ≤ n ∨ (restR s row).length ≤ n) : pageN s row q = n := by unfold pageN; omega
theorem rest_snoc (hx : l[i]? = some x) : restR s (l.take (i + 1)) = if leftB s x.key then (if s.back then x :: restR s (l.take i) else restR s (l.take i) ++ [x]) else restR s (l.take i) := by
  unfold restR
  rw [← take_snoc hx, List.filter_append]
  cases hb : s.back <;> cases hl : leftB s x.key <;> simp [hl]
theorem rpeek_hit (hx : l[i]? = some x) (hl : leftB s x.key = true) (h : (peekR s (l.take i)).2 = false ∨ s.back = true) : peekR s (l.take (i + 1)) = (x, true) := by
  unfold peekR at h ⊢
  rw [rest_snoc hx, if_pos hl]
  cases hb : s.back with
  | true => rfl
  | false =>
    rw [hb] at h
    cases hr : restR s (l.take i) with
    | nil => rfl
    | cons a r => rw [hr] at h; rcases h with h | h <;> cases h
theorem rpeek_no (hx : l[i]? = some x) (hl : leftB s x.key = false) : peekR s (l.take (i + 1)) = peekR s (l.take i) := by
  unfold peekR; rw [rest_snoc hx, if_neg (by simp [hl])]
theorem rpeek_keep (hx : l[i]? = some x) (h : (peekR s (l.take i)).2 = true) (hb : s.back = false) : peekR s (l.take (i + 1)) = peekR s (l.take i) := by
  cases hl : leftB s x.key with
  | false => exact rpeek_no hx hl
  | true =>
    unfold peekR at h ⊢
    rw [rest_snoc hx, if_pos hl, hb, if_neg (by simp)]
    cases hr : restR s (l.take i) with
    | nil => rw [hr] at h; cases h
    | cons a r => rfl
theorem rpeek_zero : peekR s (l.take 0) = noHit := by unfold peekR restR; split <;> rfl
theorem take_miss (hu : upT row) (h : (peekR (stepsN n s row) row).2 = false) : (restR s row).take (n + 1) = (restR s row).take n := by
  have := peek_none hu h
  rw [List.take_of_length_le (by omega), List.take_of_length_le this]
theorem take_hit (hu : upT row) (h : (peekR (stepsN n s row) row).2 = true) : (restR s row).take (n + 1) = (restR s row).take n ++ [(peekR (stepsN n s row) row).1] := (take_snoc (peek_some hu h)).symm
theorem rest_lt (hu : upT row) (h : (peekR (stepsN n s row) row).2 = true) : n < (restR s row).length := (List.getElem?_eq_some_iff.1 (peek_some hu h)).1
theorem page_ref (hu : upT row) {q : Int} (h1 : (n : Int) ≤ q ∨ n = 0) (h2 : q ≤ n ∨ row.length ≤ n) : stepsN n s row = pageS s row q ∧ (restR s row).take n = pageL s row q := by
  have hr := rest_le (s := s) (row := row)
  unfold pageS pageL pageN
  by_cases h : n ≤ (restR s row).length
  · have : min q.toNat (restR s row).length = n := by omega
    rw [this]; exact ⟨rfl, rfl⟩
  · have : min q.toNat (restR s row).length = (restR s row).length := by omega
    rw [this, steps_min hu (n := n) (by omega), List.take_of_length_le (i := n) (by omega), List.take_length]; exact ⟨rfl, rfl⟩
theorem count_snoc (hx : l[i]? = some x) : countR (l.take (i + 1)) f t = countR (l.take i) f t + if leftB ⟨f, t, false, sZ, false⟩ x.key then 1 else 0 := by
  unfold countR
  rw [rest_snoc hx]
  cases leftB ⟨f, t, false, sZ, false⟩ x.key <;> simp
theorem count_zero : countR (l.take 0) f t = 0 := rfl
theorem count_le : countR row f t ≤ row.length := rest_le
theorem skip_no (h : (s.told && ((s.back && !(sLt k s.at_)) || (!s.back && !(sLt s.at_ k)))) = true) : skipS s k = (s, false) := if_pos h
theorem skip_yes (h : (s.told && ((s.back && !(sLt k s.at_)) || (!s.back && !(sLt s.at_ k)))) = false) : skipS s k = ({ s with at_ := k, told := true }, true) := if_neg (by simp [h])
end
end Tp
