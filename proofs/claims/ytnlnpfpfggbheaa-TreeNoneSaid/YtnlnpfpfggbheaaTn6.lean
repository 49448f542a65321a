/- Proved here: lemmas and walks on which the claim stands (part 6 of 6). No condition. -/
import Derived.Test.YtnlnpfpfggbheaaTn5
set_option linter.all false
set_option maxRecDepth 100000
namespace Go.Proofs
open Go Tp
theorem Try.un34 : Und Try.prog 34 (.slice 41) := by unfold Und; kernel_rfl
theorem Try.el34 : Elem Try.prog 34 vZ 1 24 := Elem.mk (by kernel_rfl)
theorem Try.en70 : Enters Try.prog 70 := fun _ _ => by kernel_rfl
theorem Try.en100 : Enters Try.prog 100 := fun _ _ => by kernel_rfl
theorem Try.sc34 : Scal Try.prog 34 := fun _ => by kernel_rfl
theorem tr_hits1 {G X : Nat → Prop} {w : World} (y : Value) (pb : Nat) (tb ab : Nat) (rt : Handle) (fu : Bool) (ln : Int) (l : List RPlace) (S : Nat → Prop) (xs : List THit) (hA : SmallA l) (d : Nat) (hLk : fu = true → lookOk d l rt) (hxs : xs = allL fu d l rt) {ι : Type} (C : Nat → ι → Chunk) (q0_ : ι) (rf : World → Prop) (hy0 : ∀ (k : Nat) (i : ι) (x : THit) (w : World), xs[k]? = some x → Mem (avoid [C k i]) (Foots [C k i]) w [C k i] [rf] w → RetsV Try.prog y #[.agg #[.string x.key, .int .i64 x.val]] w fun r w' => (r = .bool true ∧ ∃ i', Mem (avoid [C k i]) (Foots [C k i]) w [C (k + 1) i'] [] w') ∨ (r = .bool false ∧ ∃ i' : ι, Mem (avoid [C k i]) (Foots [C k i]) w [badC] [] w')) (M : Mem G X w [C 0 q0_, arenaC 143 145 S ab l] [bF pb #[(vP tb)] 26, bF tb #[(vP ab), (vI rt.at_), (vI rt.turn), (vB fu), (vI ln)] 94, rf] w) : Rets Try.prog 100 #[y, (vP pb)] w fun r w' => ∃ q_, Mem G X w [C xs.length q_, arenaC 143 145 S ab l] [] w' := by
 refine Rets.enter 18 _ Try.func100 rfl Try.ntmps100 Try.results100 (by simp) ?_
 have hy := fun k i x w hx m => (hy0 k i x w hx m).mono fun r w' h => h.elim id fun ⟨_, _, m⟩ => ((m.chunk 0 rfl).inv).elim
 refine wR (wS (vP tb) rfl (Step.load1 Try.sc26 rfl ((cell_blk (M.rep 0 rfl) 0).trans rfl)) (wP (vB true) (wM (vB true) (wS (vP tb) rfl (Step.load1 Try.sc26 rfl ((cell_blk (M.rep 0 rfl) 0).trans rfl)) (wP (vP tb) ?_)))))
 refine wP (Value.pointer (some ⟨tb, 3, none⟩)) (wS (vB fu) rfl (Step.load1 Try.sc4 rfl ((cell_blk (M.rep 1 rfl) 3).trans rfl)) (wS (vB fu) rfl (Step.pick (t := true) rfl rfl) (WL.nil ?_)))
 refine W.cond (t := fu) rfl (fun h1 => ?_) (fun h1 => ?_)
 ·
  refine W.drawn M [0, 1, 2, 3, 4, 5, 6] [6] [] _ _ (sN (sN sE)) (fun _ h => h) Try.mixed (by kernel_rfl) ?_
  refine tR (vP tb) rfl (fun A w M => (Step.load1 Try.sc26 rfl ((cell_blk (M.rep 0 rfl) 0).trans rfl))) ?_
  refine tR (vP tb) rfl (fun A w M => (Step.load1 Try.sc26 rfl ((cell_blk (M.rep 0 rfl) 0).trans rfl))) ?_
  refine tP (vP tb) rfl (fun w => sP) ?_
  refine tP (Value.pointer (some ⟨tb, 1, none⟩)) rfl (fun w => sP) ?_
  refine tR (Value.agg #[(vI rt.at_), (vI rt.turn)]) rfl (fun A w M => (Step.loadN Try.ag92 rfl (M.rep 1 rfl) (Nat.le_of_ble_eq_true rfl) rfl)) ?_
  refine tP y rfl (fun w => (Step.move rfl)) ?_
  refine TW.callX (ι := ι) (fun jx v_ => v_ = (vB true)) (fun jx => [arenaC 143 145 S ab l, C (0 + (allT d l rt).length) jx]) (fun jx => [bF pb #[(vP tb)] 26, bF tb #[(vP ab), (vI rt.at_), (vI rt.turn), (vB fu), (vI ln)] 94, rf]) rfl (by decide) rfl (fun jx => (sN (sN sE))) (fun jx r h => h) (fun A w M => have fq := M.frm [arenaC 143 145 S ab l, C 0 q0_] [fl A] [2, 1, 0] rfl; Rets.mono (tr_below C y xs rf hy d tb ab rt fu ln l S rt 0 q0_ (by assumption) (hLk h1) (by rw [hxs, allL, if_pos h1]; exact atL_all _) (M.eF fq ⟨(M.rF fq 1 rfl), (M.rF fq 2 rfl), trivial⟩)) (fun v_ w_ ⟨q4, e_, m⟩ => ⟨q4, e_, (M.lF fq m).sel [2, 0, 1] rfl (by decide), fun b hb => M.kF fq m b hb⟩)) (fun w => CallsF.func Try.en101 rfl) (fun q4 v hp hin => ?_)
  replace hp := hp.symm; subst hp
  obtain ⟨_, _, hin⟩ := hin
  clear hin
  refine TW.done (fun w5 M => ?_)
  refine ⟨.inr rfl, undef, ?_, ?_⟩
  · exact ⟨rfl, Res.none⟩
  have e6 : (xs.length : Nat) = 0 + (allT d l rt).length := by
   rw [hxs, allL, if_pos h1]; exact (Nat.zero_add _).symm
  replace M := M.rechunk 1 (c' := C xs.length q4) rfl (congrArg (fun z => C z q4) (e6.symm))
  exact ⟨_, M.close [1, 0] rfl (by decide) trivial⟩
 ·
  refine W.skip ?_
  refine ⟨.inr rfl, undef, ?_, ?_⟩
  · exact ⟨rfl, Res.none⟩
  have e7 : (xs.length : Nat) = 0 := by
   rw [hxs, allL, if_neg (by simp [h1])]; rfl
  replace M := M.rechunk 0 (c' := C xs.length q0_) rfl (congrArg (fun z => C z q0_) (e7.symm))
  exact ⟨_, M.close [0, 1] rfl (by decide) trivial⟩
theorem tr_hits1n {G X : Nat → Prop} {w : World} (y : Value) (pb : Nat)    {ι : Type} (C : Nat → ι → Chunk) (q0_ : ι) (rf : World → Prop) (M : Mem G X w [C 0 q0_] [bF pb #[vN] 26, rf] w) : Rets Try.prog 100 #[y, (vP pb)] w fun r w' => ∃ q_, Mem G X w [C 0 q_] [] w' := by
 refine Rets.enter 18 _ Try.func100 rfl Try.ntmps100 Try.results100 (by simp) ?_
 refine wR (wS vN rfl (Step.load1 Try.sc26 rfl ((cell_blk (M.rep 0 rfl) 0).trans rfl)) (wP (vB false) (wM (vB false) ?_)))
 refine WL.pass rfl ?_
 refine WL.pass rfl ?_
 refine WL.pass rfl ?_
 refine WL.pass rfl ?_
 refine wS (vB false) rfl (Step.pick (t := false) rfl rfl) (WL.nil ?_)
 refine W.cond (t := false) rfl (fun h => by cases h) (fun _ => ?_)
 refine W.skip ?_
 refine ⟨.inr rfl, undef, ?_, ?_⟩
 · exact ⟨rfl, Res.none⟩
 exact ⟨_, M.close [0] rfl (by decide) trivial⟩
theorem tr_hits {G : Nat → Prop} {w : World} (tb : Nat)   (M : Mem G (fun _ => False) w [] [] w) : Rets Try.prog 70 #[(vP tb)] w fun r w' => ∃ (pb' : Nat), r = (Value.func (.func 100) #[] #[(vP pb')]) ∧ Mem G (fun _ => False) w [bk pb' #[(vP tb)] 26] [] w' := by
 refine Rets.enter 4 _ Try.func70 rfl Try.ntmps70 Try.results70 (by simp) ?_
 refine wR ?_
 refine WL.box (v := (vP tb)) (c := #[(vP tb)]) M rfl rfl rfl (fun b1 w2 hb1 M => ?_)
 refine wA Value.nilFunc (WL.nil (wR (wP (Value.func (.func 100) #[] #[(vP b1)]) (wA (Value.func (.func 100) #[] #[(vP b1)]) (WL.nil ?_)))))
 refine W.ret ?_
 refine ⟨.inl rfl, (Value.func (.func 100) #[] #[(vP b1)]), ?_, ?_⟩
 · exact ⟨rfl, (Res.r1 (show RV _ _ _ (.tmp 2) (Value.func (.func 100) #[] #[(vP b1)]) from by exact rfl))⟩
 refine ⟨b1, ?_, M.close [0] rfl (by decide) trivial⟩
 rfl
theorem tr_hitsn {G : Nat → Prop} {w : World}    (M : Mem G (fun _ => False) w [] [] w) : Rets Try.prog 70 #[vN] w fun r w' => ∃ (pb' : Nat), r = (Value.func (.func 100) #[] #[(vP pb')]) ∧ Mem G (fun _ => False) w [bk pb' #[vN] 26] [] w' := by
 refine Rets.enter 4 _ Try.func70 rfl Try.ntmps70 Try.results70 (by simp) ?_
 refine wR ?_
 refine WL.box (v := vN) (c := #[vN]) M rfl rfl rfl (fun b1 w2 hb1 M => ?_)
 refine wA Value.nilFunc (WL.nil (wR (wP (Value.func (.func 100) #[] #[(vP b1)]) (wA (Value.func (.func 100) #[] #[(vP b1)]) (WL.nil ?_)))))
 refine W.ret ?_
 refine ⟨.inl rfl, (Value.func (.func 100) #[] #[(vP b1)]), ?_, ?_⟩
 · exact ⟨rfl, (Res.r1 (show RV _ _ _ (.tmp 2) (Value.func (.func 100) #[] #[(vP b1)]) from by exact rfl))⟩
 refine ⟨b1, ?_, M.close [0] rfl (by decide) trivial⟩
 rfl
theorem tr_all {G X : Nat → Prop} {w : World} (tb ab : Nat) (rt : Handle) (fu : Bool) (ln : Int) (l : List RPlace) (S : Nat → Prop)  (hA : SmallA l) (d : Nat) (hLk : fu = true → lookOk d l rt) (hb : (allL fu d l rt).length ≤ 1000000) (M : Mem G X w [arenaC 143 145 S ab l] [bF tb #[(vP ab), (vI rt.at_), (vI rt.turn), (vB fu), (vI ln)] 94] w) : Rets Try.prog 38 #[(vP tb)] w fun r w' => ∃ (v' : Value), r = v' ∧ Mem G X w [arenaC 143 145 S ab l, own 41 2 v' ((allL fu d l rt).length) ((allL fu d l rt).flatMap hitE)] [] w' := by
 refine Rets.enterD 12 _ Try.func38 rfl Try.ntmps38 Try.results38 (by simp) ?_
 refine wR ?_
 refine WL.alloc (c := #[vZ]) M rfl Try.el34.zero rfl (fun b1 w2 hb1 M => ?_)
 refine WL.nil (W.seq' (wR (wM (vP tb) ?_)))
 refine WL.callX rfl (tr_hits tb (M.enterW0 trivial)) (CallsF.func Try.en70 rfl) ?_
 rintro _ w4 ⟨pb3, rfl, m⟩
 replace M := M.leaveW0 m
 clear m
 refine WL.nil (W.block ?_)
 replace M := M.ownNil 41 2
 replace M := M.rechunk 0 (c' := own 41 2 vZ (((allL fu d l rt).take 0).length) (((allL fu d l rt).take 0).flatMap hitE)) rfl rfl
 refine W.range M rfl rfl rfl Try.en100 (fun D6 lp7 w8 LC5 hLC9 _ _ M => ?_)
 replace M := M.sel (L' := [(LC5 LoopState.ready none), bk b1 #[vZ] 34, own 41 2 vZ (((allL fu d l rt).take 0).length) (((allL fu d l rt).take 0).flatMap hitE), blk D6 (.deferred (some [])), bk pb3 #[(vP tb)] 26, arenaC 143 145 S ab l]) [0, 4, 2, 1, 3, 5] rfl (by decide)
 replace M := Mem.packL (Ls := [(LC5 LoopState.ready none), bk b1 #[vZ] 34, own 41 2 vZ (((allL fu d l rt).take 0).length) (((allL fu d l rt).take 0).flatMap hitE)]) (L := [blk D6 (.deferred (some [])), bk pb3 #[(vP tb)] 26, arenaC 143 145 S ab l]) M
 refine Rets.mono (tr_hits1 _ pb3 tb ab rt fu ln l S (allL fu d l rt) hA d hLk rfl (ι := Value) (fun (k : Nat) (i : Value) => packL ([(LC5 LoopState.ready none), bk b1 #[i] 34, own 41 2 i (((allL fu d l rt).take k).length) (((allL fu d l rt).take k).flatMap hitE)])) vZ (fun _ => True) ?_ (M.enterW (C := [packL ([(LC5 LoopState.ready none), bk b1 #[vZ] 34, own 41 2 vZ (((allL fu d l rt).take 0).length) (((allL fu d l rt).take 0).flatMap hitE)]), arenaC 143 145 S ab l]) (D := [blk D6 (.deferred (some [])), bk pb3 #[(vP tb)] 26]) [0, 3, 1, 2] rfl (by decide) ⟨(M.wideC (C := [packL ([(LC5 LoopState.ready none), bk b1 #[vZ] 34, own 41 2 vZ (((allL fu d l rt).take 0).length) (((allL fu d l rt).take 0).flatMap hitE)]), arenaC 143 145 S ab l]) (D := [blk D6 (.deferred (some [])), bk pb3 #[(vP tb)] 26]) [0, 3, 1, 2] rfl (by decide) 1 rfl), (M.wideR (C := [packL ([(LC5 LoopState.ready none), bk b1 #[vZ] 34, own 41 2 vZ (((allL fu d l rt).take 0).length) (((allL fu d l rt).take 0).flatMap hitE)]), arenaC 143 145 S ab l]) (D := [blk D6 (.deferred (some [])), bk pb3 #[(vP tb)] 26]) [0, 3, 1, 2] rfl 0 rfl), (Sh.pure fun _ => trivial), trivial⟩)) ?_
 ·
  rintro k_ v_ x_ w10 hx_ m11
  have M := Mem.unpackL (L := []) m11
  have sl12 : IsSl v_ := SlAt.isSl (own_slAt (Mem.chunk M 2 rfl).inv)
  have hle13 := SlAt.le' (own_slAt (Mem.chunk M 2 rfl).inv)
  refine RetsV.yieldM hLC9 M 0 rfl [(Value.agg #[(vS x_.key), (vI x_.val)])] rfl (by decide) ?_
  have hacl : ((allL fu d l rt).take k_).length ≤ 1000000 := by rw [List.length_take]; omega
  refine W.region rfl ?_
  refine WL.alloc (c := #[(vS sZ), (vI 0)]) M rfl Try.el41.zero rfl (fun b14 w15 hb14 M => ?_)
  refine WL.store (v := (Value.agg #[(vS x_.key), (vI x_.val)])) (cs := [(vS x_.key), (vI x_.val)]) (c' := #[(vS x_.key), (vI x_.val)]) M 0 rfl rfl Try.el41.sized rfl rfl rfl rfl (Nat.le_of_ble_eq_true rfl) (cel_cons rfl (cel_cons rfl cel_nil)) rfl rfl (fun w16 M => ?_)
  refine WL.nil ?_
  repeat (with_reducible first | refine inBlk_normal ?_ | refine inBlk_ret ?_ | refine thn_ret ?_)
  refine RoundA.go hLC9 M 1 rfl (fun w17 M => ?_)
  refine W.block (W.region rfl (wS v_ rfl (Step.load1 Try.sc34 rfl ((M.cell 2 rfl 0).trans rfl)) (wS (Value.agg #[(vS x_.key), (vI x_.val)]) rfl (Step.loadN Try.ag41 rfl (M.blk 0 rfl) (Nat.le_of_ble_eq_true rfl) rfl) ?_)))
  refine WL.new (obj := .cells #[(vS x_.key), (vI x_.val)] 41) (fun b => .slice (some ⟨b, 0, none⟩) 1 1) M rfl (fun w => Step.make (by kernel_rfl)) (fun b18 w19 hb18 M => ?_)
  refine WL.does rfl (M.appendF ((allL fu d l rt).take k_) ([x_] : List THit) (sv := (Value.slice (some ⟨b18, 0, none⟩) 1 1)) 4 Try.un34 Try.el41 rfl (by decide) rfl rfl rfl (SlAt.of_blk (M.blk 0 rfl) rfl (by decide)) hitE_cel (by have := hacl; simp only [maxLen, List.length_nil, List.length_cons, List.length_append]; omega) (by have := hacl; (try simp only [List.length_nil, List.length_cons, List.length_append]); omega)) ?_
  rintro v20 w21 M
  have sl22 : IsSl v20 := SlAt.isSl (own_slAt (M.chunk 4 rfl).inv)
  refine WL.store (v := v20) (cs := [v20]) (c' := #[v20]) M 3 rfl rfl Try.el34.sized rfl rfl (IsSl.list sl22) rfl (Nat.le_of_ble_eq_true rfl) (cel_cons (IsSl.cel sl22) cel_nil) rfl rfl (fun w23 M => ?_)
  refine WL.nil ?_
  repeat (with_reducible first | refine inBlk_normal ?_ | refine inBlk_ret ?_ | refine thn_ret ?_)
  refine RoundQ.go hLC9 M 2 rfl (fun w24 M => ?_)
  replace M := M.rechunk 4 (c' := own 41 2 v20 (((allL fu d l rt).take (k_ + 1)).length) (((allL fu d l rt).take (k_ + 1)).flatMap hitE)) rfl (by rw [← take_snoc hx_])
  refine .inl ⟨rfl, v20, ?_⟩
  exact Mem.packL (Ls := [(LC5 LoopState.ready none), bk b1 #[v20] 34, own 41 2 v20 (((allL fu d l rt).take (k_ + 1)).length) (((allL fu d l rt).take (k_ + 1)).flatMap hitE)]) (L := []) (M.close (L' := [(LC5 LoopState.ready none), bk b1 #[v20] 34, own 41 2 v20 (((allL fu d l rt).take (k_ + 1)).length) (((allL fu d l rt).take (k_ + 1)).flatMap hitE)]) [2, 3, 4] rfl (by decide) trivial)
 ·
  rintro _ w25 ⟨v_, m⟩
  replace M := M.leaveW (C := [packL ([(LC5 LoopState.ready none), bk b1 #[vZ] 34, own 41 2 vZ (((allL fu d l rt).take 0).length) (((allL fu d l rt).take 0).flatMap hitE)]), arenaC 143 145 S ab l]) (D := [blk D6 (.deferred (some [])), bk pb3 #[(vP tb)] 26]) [0, 3, 1, 2] rfl (by decide) m
  replace M := Mem.unpackL M
  have sl26 : IsSl v_ := SlAt.isSl (own_slAt (Mem.chunk M 2 rfl).inv)
  have hle27 := SlAt.le' (own_slAt (Mem.chunk M 2 rfl).inv)
  obtain ⟨_, hr1, hr2, hr3, M⟩ := M.endLoop' hLC9 0 rfl (by decide)
  refine ⟨_, hr1, hr2, .inl ⟨hr3, ?_⟩⟩
  replace M := M.rechunk 1 (c' := own 41 2 v_ ((allL fu d l rt).length) ((allL fu d l rt).flatMap hitE)) rfl (by rw [List.take_length])
  refine wR (wS v_ rfl (Step.load1 Try.sc34 rfl ((M.cell 0 rfl 0).trans rfl)) ?_)
  refine WL.store (v := v_) (cs := [v_]) (c' := #[v_]) M 0 rfl rfl Try.el34.sized rfl rfl (IsSl.list sl26) rfl (Nat.le_of_ble_eq_true rfl) (cel_cons (IsSl.cel sl26) cel_nil) rfl rfl (fun w29 M => ?_)
  refine WL.nil ?_
  refine W.ret ?_
  obtain ⟨hD30, M⟩ := M.strike 3 rfl
  refine ⟨.inl rfl, _, (.cons hD30 .nil), v_, ?_, ?_⟩
  · exact (Res.r1 (RV.cell1 Try.sc34 rfl (M.blk 0 rfl)))
  refine ⟨v_, ?_, M.close [2, 1] rfl (by decide) trivial⟩
  rfl
theorem tr_alln {G : Nat → Prop} {w : World}    (M : Mem G (fun _ => False) w [] [] w) : Rets Try.prog 38 #[vN] w fun r w' => ∃ (v' : Value), r = v' ∧ Mem G (fun _ => False) w [own 41 2 v' (([] : List THit).length) (([] : List THit).flatMap hitE)] [] w' := by
 refine Rets.enterD 12 _ Try.func38 rfl Try.ntmps38 Try.results38 (by simp) ?_
 refine wR ?_
 refine WL.alloc (c := #[vZ]) M rfl Try.el34.zero rfl (fun b1 w2 hb1 M => ?_)
 refine WL.nil (W.seq' (wR (wM vN ?_)))
 refine WL.callX rfl (tr_hitsn  (M.enterW0 trivial)) (CallsF.func Try.en70 rfl) ?_
 rintro _ w4 ⟨pb3, rfl, m⟩
 replace M := M.leaveW0 m
 clear m
 refine WL.nil (W.block ?_)
 refine W.range M rfl rfl rfl Try.en100 (fun D6 lp7 w8 LC5 hLC9 _ _ M => ?_)
 replace M := M.sel (L' := [(LC5 LoopState.ready none), bk b1 #[vZ] 34, blk D6 (.deferred (some [])), bk pb3 #[vN] 26]) [0, 3, 1, 2] rfl (by decide)
 replace M := Mem.packL (Ls := [(LC5 LoopState.ready none), bk b1 #[vZ] 34]) (L := [blk D6 (.deferred (some [])), bk pb3 #[vN] 26]) M
 refine Rets.mono (tr_hits1n _ pb3 (ι := Unit) (fun (k : Nat) (i : Unit) => packL ([(LC5 LoopState.ready none), bk b1 #[vZ] 34])) () (fun _ => True) (M.enterW (C := [packL ([(LC5 LoopState.ready none), bk b1 #[vZ] 34])]) (D := [blk D6 (.deferred (some [])), bk pb3 #[vN] 26]) [0, 1, 2] rfl (by decide) ⟨(M.wideC (C := [packL ([(LC5 LoopState.ready none), bk b1 #[vZ] 34])]) (D := [blk D6 (.deferred (some [])), bk pb3 #[vN] 26]) [0, 1, 2] rfl (by decide) 1 rfl), (Sh.pure fun _ => trivial), trivial⟩)) ?_
 rintro _ w10 ⟨_, m⟩
 replace M := M.leaveW (C := [packL ([(LC5 LoopState.ready none), bk b1 #[vZ] 34])]) (D := [blk D6 (.deferred (some [])), bk pb3 #[vN] 26]) [0, 1, 2] rfl (by decide) m
 replace M := Mem.unpackL M
 obtain ⟨_, hr1, hr2, hr3, M⟩ := M.endLoop' hLC9 0 rfl (by decide)
 refine ⟨_, hr1, hr2, .inl ⟨hr3, ?_⟩⟩
 refine wR (wS vZ rfl (Step.load1 Try.sc34 rfl ((M.cell 0 rfl 0).trans rfl)) ?_)
 refine WL.store (v := vZ) (cs := [vZ]) (c' := #[vZ]) M 0 rfl rfl Try.el34.sized rfl rfl rfl rfl (Nat.le_of_ble_eq_true rfl) (cel_cons rfl cel_nil) rfl rfl (fun w12 M => ?_)
 refine WL.nil ?_
 refine W.ret ?_
 obtain ⟨hD13, M⟩ := M.strike 1 rfl
 refine ⟨.inl rfl, _, (.cons hD13 .nil), vZ, ?_, ?_⟩
 · exact (Res.r1 (RV.cell1 Try.sc34 rfl (M.blk 0 rfl)))
 replace M := M.ownNil 41 2
 have e14 : ([] : List THit) = [] := by
  rfl
 replace M := M.rechunk 0 (c' := own 41 2 vZ (([] : List THit).length) (([] : List THit).flatMap hitE)) rfl (by rw [e14]; try rfl)
 refine ⟨vZ, ?_, M.close [0] rfl (by decide) trivial⟩
 rfl
end Go.Proofs
set_option maxRecDepth 100000
namespace Go.Proofs
open Go Tp
theorem Try.un65 : Und Try.prog 65 (.slice 74) := by unfold Und; kernel_rfl
theorem Try.el74 : Elem Try.prog 74 (Value.agg #[(vI 0), (vB false), vZ]) 3 40 := Elem.mk (by kernel_rfl)
theorem Try.en62 : Enters Try.prog 62 := fun _ _ => by kernel_rfl
abbrev oP (v : Value) (xs : List PlC) : Chunk := own 74 3 v xs.length (xs.flatMap plcE)
abbrev fP (v : Value) (xs : List PlC) : World → Prop := SlAt 3 v xs.length (xs.flatMap plcE)
abbrev fR (v : Value) (xs : List THit) : World → Prop := SlAt 2 v xs.length (xs.flatMap hitE)
theorem tr_places : ∀ (d : Nat) {G X : Nat → Prop} {w : World} (tb ab : Nat) (r : Handle) (fu : Bool) (ln : Int) (l : List RPlace) (S : Nat → Prop) (v : Value) (cs : List PlC) (N : Nat → Prop) (ps : List TPl) (h : Handle) (q : Int)  (hA : SmallA l) (hO : plOk d l h) (hq : 0 ≤ q ∧ q + (d : Int) ≤ 1000000) (hb : ps.length + (placesT d l h q).length ≤ 1000000) (M : Mem G X w [arenaC 143 145 S ab l, oP v cs, rowsC 9 N 0 cs ps] [bF tb #[(vP ab), (vI r.at_), (vI r.turn), (vB fu), (vI ln)] 94] w), Rets Try.prog 62 #[(vP tb), v, (Value.agg #[(vI h.at_), (vI h.turn)]), (vI q)] w fun r w' => ∃ (v' : Value) (cs' : List PlC) (N' : Nat → Prop), r = v' ∧ Mem G X w [arenaC 143 145 S ab l, oP v' cs', rowsC 9 N' 0 cs' (ps ++ placesT d l h q)] [] w' := by
 intro d
 induction d using Nat.strongRecOn
 rename_i d ih
 intro G X w tb ab r fu ln l S v cs N ps h q hA hO hq hb M
 refine Rets.enter 39 _ Try.func62 rfl Try.ntmps62 Try.results62 (by simp) ?_
 have sl1 : IsSl v := SlAt.isSl (own_slAt (Mem.chunk M 1 rfl).inv)
 have hle2 := SlAt.le' (own_slAt (Mem.chunk M 1 rfl).inv)
 obtain ⟨n, hn⟩ : ∃ n, (rget l h).1 = n := ⟨_, rfl⟩
 obtain ⟨ht1, ht2, ht3⟩ := plOk_node hO hn
 have hcl_ : cs.length ≤ 1000000 := by have := rows_len (M.chunk 2 rfl).inv; omega
 refine wR ?_
 refine WL.box (v := (Value.agg #[(vI h.at_), (vI h.turn)])) (c := #[(vI h.at_), (vI h.turn)]) M rfl rfl rfl (fun b3 w4 hb3 M => ?_)
 refine wA vZ (WL.nil (wR (wM (vP tb) (wS (Value.agg #[(vI h.at_), (vI h.turn)]) rfl (Step.loadN Try.ag92 rfl (M.blk 0 rfl) (Nat.le_of_ble_eq_true rfl) rfl) ?_))))
 have fq := M.frm [arenaC 143 145 S ab l] [bk b3 #[(vI h.at_), (vI h.turn)] 92, oP v cs, rowsC 9 N 0 cs ps] [1, 0, 2, 3] rfl
 refine WL.callX rfl (tr_node tb ab r fu ln l S h (by assumption) n hn (M.eF fq ⟨(M.rF fq 0 rfl), trivial⟩)) (CallsF.func Try.en49 rfl) ?_
 rintro _ w8 ⟨kv5, dv6, vv7, rfl, m⟩
 replace M := M.lF fq m
 clear m
 have sl9 : IsSl kv5 := SlAt.isSl (own_slAt (Mem.chunk M 1 rfl).inv)
 have hle10 := SlAt.le' (own_slAt (Mem.chunk M 1 rfl).inv)
 have sl11 : IsSl dv6 := SlAt.isSl (own_slAt (Mem.chunk M 2 rfl).inv)
 have hle12 := SlAt.le' (own_slAt (Mem.chunk M 2 rfl).inv)
 have sl13 : IsSl vv7 := SlAt.isSl (own_slAt (Mem.chunk M 3 rfl).inv)
 have hle14 := SlAt.le' (own_slAt (Mem.chunk M 3 rfl).inv)
 refine WL.alloc (c := #[(vB false), vZ, vZ, vZ]) M rfl Try.el99.zero rfl (fun b15 w16 hb15 M => ?_)
 refine WL.store (v := (Value.agg #[(vB n.leaf), kv5, dv6, vv7])) (cs := [(vB n.leaf), kv5, dv6, vv7]) (c' := #[(vB n.leaf), kv5, dv6, vv7]) M 0 rfl rfl Try.el99.sized rfl rfl rfl rfl (Nat.le_of_ble_eq_true rfl) (cel_cons rfl (cel_cons (IsSl.cel sl9) (cel_cons (IsSl.cel sl11) (cel_cons (IsSl.cel sl13) cel_nil)))) rfl rfl (fun w17 M => ?_)
 refine WL.nil (wR (wM v (wM (vI q) (wP (vP b15) (wS (vB n.leaf) rfl (Step.load1 Try.sc4 rfl ((M.cell 0 rfl 0).trans rfl)) ?_)))))
 refine wP (Value.pointer (some ⟨b15, 1, none⟩)) (wS kv5 rfl (Step.load1 Try.sc22 rfl ((M.cell 0 rfl 1).trans rfl)) (wS (Value.agg #[(vI q), (vB n.leaf), kv5]) rfl (by obtain ⟨_, _, _, e⟩ := sl9; subst e; exact sP) ?_))
 refine WL.new (obj := .cells #[(vI q), (vB n.leaf), kv5] 74) (fun b => .slice (some ⟨b, 0, none⟩) 1 1) M rfl (fun w => (by obtain ⟨_, _, _, e⟩ := sl9; subst e; exact Step.make (by kernel_rfl))) (fun b18 w19 hb18 M => ?_)
 refine WL.does rfl (M.appendF cs ([(⟨q, n.leaf, ⟨kv5, sl9⟩⟩ : PlC)] : List PlC) (sv := (Value.slice (some ⟨b18, 0, none⟩) 1 1)) 7 Try.un65 Try.el74 rfl (by decide) rfl rfl rfl (SlAt.of_blk (M.blk 0 rfl) rfl (by decide)) plcE_cel (by have := hcl_; simp only [maxLen, List.length_nil, List.length_cons, List.length_append]; omega) (by have := hcl_; (try simp only [List.length_nil, List.length_cons, List.length_append]); omega)) ?_
 rintro v20 w21 M
 have sl22 : IsSl v20 := SlAt.isSl (own_slAt (M.chunk 7 rfl).inv)
 refine wA v20 (WL.nil (W.seq' (W.seq' ?_)))
 replace M := M.sel (L' := [rowsC 9 N 0 cs ps, oS kv5 n.keys, bk b18 #[(vI q), (vB n.leaf), kv5] 74, bk b15 #[(vB n.leaf), kv5, dv6, vv7] 99, arenaC 143 145 S ab l, oH dv6 n.kids, oI vv7 n.vals, bk b3 #[(vI h.at_), (vI h.turn)] 92, oP v20 (cs ++ ([(⟨q, n.leaf, ⟨kv5, sl9⟩⟩ : PlC)] : List PlC))]) [8, 3, 0, 1, 2, 4, 5, 6, 7] rfl (by decide)
 obtain ⟨N2_, M⟩ := M.rowsAdd (d := q) (lf := n.leaf) (sl := sl9) (ks := n.keys)
 replace M := M.rechunk 0 (c' := rowsC 9 N2_ 0 (cs ++ ([(⟨q, n.leaf, ⟨kv5, sl9⟩⟩ : PlC)] : List PlC)) (ps ++ (⟨q, n.leaf, n.keys⟩ : TPl) :: kidsP d l n q 0)) rfl (by rw [kidsP_zero])
 refine W.region rfl (wP (Value.pointer (some ⟨b15, 2, none⟩)) (wS dv6 rfl (Step.load1 Try.sc96 rfl ((M.cell 2 rfl 2).trans rfl)) (wS (vI ↑n.kids.length) rfl (Step.lenSl Try.un96 rfl (own_slAt (M.chunk 4 rfl).inv)) (wM (vI 0) (WL.nil ?_)))))
 refine W.block ?_
 replace M := M.loseI 6
 replace M := M.loseI 5
 replace M := M.loseI 2
 replace M := M.loseI 1
 replace M := M.sel (L' := [oP v20 (cs ++ ([(⟨q, n.leaf, ⟨kv5, sl9⟩⟩ : PlC)] : List PlC)), rowsC 9 N2_ 0 (cs ++ ([(⟨q, n.leaf, ⟨kv5, sl9⟩⟩ : PlC)] : List PlC)) (ps ++ (⟨q, n.leaf, n.keys⟩ : TPl) :: kidsP d l n q 0), arenaC 143 145 S ab l, oH dv6 n.kids]) [3, 0, 1, 2] rfl (by decide)
 refine W.loop (fun kk ρ w' => ∃ (i_ : Nat) (v_ : Value) (cs_ : List PlC) (N_ : Nat → Prop), ((i_ ≤ n.kids.length) ∧ kk = n.kids.length - i_) ∧ ρ.has [(0, (vP tb)), (1, v_), (3, (vI q)), (8, vZ), (25, dv6), (26, (vI ↑n.kids.length)), (27, (vI ↑i_))] ∧ Mem G X w [oP v_ cs_, rowsC 9 N_ 0 cs_ (ps ++ (⟨q, n.leaf, n.keys⟩ : TPl) :: kidsP d l n q i_), arenaC 143 145 S ab l, oH dv6 n.kids] [bF tb #[(vP ab), (vI r.at_), (vI r.turn), (vB fu), (vI ln)] 94]  w') _ ⟨0, _, _, _, ⟨(Nat.zero_le _), rfl⟩, ⟨rfl, rfl, rfl, rfl, rfl, rfl, rfl, rfl, rfl⟩, M⟩ ?_
 rintro _ ρ24 w23 ⟨i_, v_, cs_, N_, ⟨hi25, rfl⟩, hρ, M⟩
 obtain ⟨ρ24, rfl⟩ := hρ.know
 clear hρ
 have sl26 : IsSl v_ := SlAt.isSl (own_slAt (M.chunk 0 rfl).inv)
 refine wR (wP (vB (decide ((↑i_ : Int) < (↑n.kids.length : Int)))) (WL.nil (W.seq' ?_)))
 refine W.cond (t := decide ((↑i_ : Int) < (↑n.kids.length : Int))) rfl (fun h27 => ?_) (fun h27 => ?_)
 ·
  have h27p := of_decide_eq_true h27
  refine W.skip (W.seq' (W.block (wR ?_)))
  obtain ⟨cap29, hb28⟩ := SlAt.base (own_slAt (M.chunk 3 rfl).inv) (by omega)
  obtain ⟨x30, hx30⟩ := elem_of_lt (xs := n.kids) (i := i_) (by omega)
  obtain ⟨e, he_, hO2_⟩ := plOk_kid hO hn hx30
  refine wS (vQ dv6 i_ 2) rfl (sX i_ Try.un96 Try.el92 rfl rfl hb28) (wS (Value.agg #[(vI x30.at_), (vI x30.turn)]) rfl (Step.loadEN (k := 0) (cs' := [(vI x30.at_), (vI x30.turn)]) Try.ag92 (flat_ec (own_slAt (M.chunk 3 rfl).inv) hx30 handleE_len) (by decide) rfl rfl rfl) ?_)
  refine WL.alloc (c := #[(vI 0), (vI 0)]) M rfl Try.el92.zero rfl (fun b31 w32 hb31 M => ?_)
  refine WL.store (v := (Value.agg #[(vI x30.at_), (vI x30.turn)])) (cs := [(vI x30.at_), (vI x30.turn)]) (c' := #[(vI x30.at_), (vI x30.turn)]) M 0 rfl rfl Try.el92.sized rfl rfl rfl rfl (Nat.le_of_ble_eq_true rfl) (cel_cons rfl (cel_cons rfl cel_nil)) rfl rfl (fun w33 M => ?_)
  refine WL.nil (W.region rfl (wM (vP tb) (wM v_ (wS (Value.agg #[(vI x30.at_), (vI x30.turn)]) rfl (Step.loadN Try.ag92 rfl (M.blk 0 rfl) (Nat.le_of_ble_eq_true rfl) rfl) (wM (vI q) ?_)))))
  refine wS (vI (q + 1)) rfl (Step.add rfl rfl (wrap_i64 (by omega))) ?_
  have fq := M.frm [arenaC 143 145 S ab l, oP v_ cs_, rowsC 9 N_ 0 cs_ (ps ++ (⟨q, n.leaf, n.keys⟩ : TPl) :: kidsP d l n q i_)] [bk b31 #[(vI x30.at_), (vI x30.turn)] 92, oH dv6 n.kids] [3, 1, 2, 0, 4] rfl
  refine WL.callX rfl (ih e (by omega) tb ab r fu ln l S v_ cs_ N_ (ps ++ (⟨q, n.leaf, n.keys⟩ : TPl) :: kidsP d l n q i_) x30 (q + 1) (by assumption) (hO2_) (by omega) (by have h1_ := @kidsP_le l n d (i_ + 1) q; rw [kidsP_succ he_ hx30] at h1_; rw [placesT_all hn] at hb; simp only [List.length_append, List.length_cons] at h1_ hb ⊢; omega) (M.eF fq ⟨(M.rF fq 0 rfl), trivial⟩)) (CallsF.func Try.en62 rfl) ?_
  rintro v34 w37 ⟨_, cs35, N36, rfl, m⟩
  replace M := M.lF fq m
  clear m
  have sl38 : IsSl v34 := SlAt.isSl (own_slAt (Mem.chunk M 1 rfl).inv)
  have hle39 := SlAt.le' (own_slAt (Mem.chunk M 1 rfl).inv)
  refine wA v34 (WL.nil (W.region rfl (wS (vI (↑i_ + 1)) rfl (Step.add rfl rfl (wrap_i64 (by omega))) (wM (vI (↑i_ + 1)) (WL.nil ?_)))))
  replace M := M.rechunk 2 (c' := rowsC 9 N36 0 cs35 (ps ++ (⟨q, n.leaf, n.keys⟩ : TPl) :: kidsP d l n q (i_ + 1))) rfl (by rw [kidsP_succ he_ hx30, List.append_assoc, List.cons_append])
  replace M := M.sel (L' := [oP v34 cs35, rowsC 9 N36 0 cs35 (ps ++ (⟨q, n.leaf, n.keys⟩ : TPl) :: kidsP d l n q (i_ + 1)), arenaC 143 145 S ab l, oH dv6 n.kids]) [1, 2, 0, 4] rfl (by decide)
  exact ⟨_, (by omega), i_ + 1, v34, cs35, N36, ⟨(by omega), rfl⟩, ⟨rfl, rfl, rfl, rfl, rfl, rfl, rfl, rfl, rfl⟩, M⟩
 ·
  have h27p := of_decide_eq_false h27
  refine W.exit ?_
  refine thn_exit ?_
  refine thn_exit ?_
  refine inBlk_hit ?_
  refine wR (wM v_ (wA v_ (WL.nil ?_)))
  refine W.ret ?_
  refine ⟨.inl rfl, v_, ?_, ?_⟩
  · exact ⟨rfl, (Res.r1 (show RV _ _ _ (.tmp 8) v_ from by exact rfl))⟩
  have e40 : ps ++ placesT d l h q = ps ++ (⟨q, n.leaf, n.keys⟩ : TPl) :: kidsP d l n q i_ := by
   rw [placesT_all hn, show n.kids.length = i_ by omega]
  replace M := M.rechunk 1 (c' := rowsC 9 N_ 0 cs_ (ps ++ placesT d l h q)) rfl (congrArg (fun z => rowsC 9 N_ 0 cs_ z) e40.symm)
  refine ⟨v_, cs_, N_, ?_, M.close [2, 0, 1] rfl (by decide) trivial⟩
  rfl
end Go.Proofs
set_option maxRecDepth 100000
namespace Go.Proofs
open Go Tp
theorem Try.ag74 : Aggr Try.prog 74 3 := ⟨fun _ => by kernel_rfl, fun _ => by kernel_rfl⟩
theorem Try.en65 : Enters Try.prog 65 := fun _ _ => by kernel_rfl
theorem Try.en67 : Enters Try.prog 67 := fun _ _ => by kernel_rfl
theorem Try.en99 : Enters Try.prog 99 := fun _ _ => by kernel_rfl
theorem tr_Places {G X : Nat → Prop} {w : World} (tb ab : Nat) (rt : Handle) (fu : Bool) (ln : Int) (l : List RPlace) (S : Nat → Prop)  (hA : SmallA l) (d : Nat) (hPk : fu = true → plOk d l rt) (hd : d ≤ 900000) (hb : (plcL fu d l rt).length ≤ 1000000) (M : Mem G X w [arenaC 143 145 S ab l] [bF tb #[(vP ab), (vI rt.at_), (vI rt.turn), (vB fu), (vI ln)] 94] w) : Rets Try.prog 32 #[(vP tb)] w fun r w' => ∃ (v' : Value) (cs' : List PlC) (N' : Nat → Prop), r = v' ∧ Mem G X w [arenaC 143 145 S ab l, oP v' cs', rowsC 9 N' 0 cs' (plcL fu d l rt)] [] w' := by
 refine Rets.enter 18 _ Try.func32 rfl Try.ntmps32 Try.results32 (by simp) ?_
 refine wR (wA vZ (WL.nil (W.seq' (wR (wM (vP tb) ?_)))))
 refine wP (vB false) (wM (vB false) (wM (vP tb) (wP (vP tb) (wP (Value.pointer (some ⟨tb, 3, none⟩)) (wS (vB fu) rfl (Step.load1 Try.sc4 rfl ((cell_blk (M.rep 0 rfl) 3).trans rfl)) ?_)))))
 refine wP (vB !fu) (wS (vB !fu) rfl (Step.pick (t := false) rfl rfl) (WL.nil ?_))
 refine W.cond (t := !fu) rfl (fun h1 => ?_) (fun h1 => ?_)
 ·
  refine wR (wA vZ (WL.nil ?_))
  refine W.ret ?_
  refine ⟨.inl rfl, vZ, ?_, ?_⟩
  · exact ⟨rfl, (Res.r1 (show RV _ _ _ (.tmp 2) vZ from by exact rfl))⟩
  replace M := M.ownNil 74 3
  replace M := M.rowsNil 9
  have e2 : plcL fu d l rt = ([] : List TPl) := by
   simp [plcL, (by simpa using h1)]
  replace M := M.rechunk 0 (c' := rowsC 9 (fun _ => False) 0 ([] : List PlC) (plcL fu d l rt)) rfl (congrArg (fun z => rowsC 9 (fun _ => False) 0 ([] : List PlC) z) e2.symm)
  refine ⟨vZ, ([] : List PlC), (fun _ => False), ?_, M.close [2, 1, 0] rfl (by decide) trivial⟩
  rfl
 ·
  refine W.skip (wR (wM (vP tb) (wM (vP tb) (wP (vP tb) (wP (Value.pointer (some ⟨tb, 1, none⟩)) ?_)))))
  refine wS (Value.agg #[(vI rt.at_), (vI rt.turn)]) rfl (Step.loadN Try.ag92 rfl (M.rep 0 rfl) (Nat.le_of_ble_eq_true rfl) rfl) ?_
  replace M := M.ownNil 74 3
  replace M := M.rowsNil 9
  have fq := M.frm [arenaC 143 145 S ab l, oP vZ ([] : List PlC), rowsC 9 (fun _ => False) 0 ([] : List PlC) ([] : List TPl)] [] [2, 1, 0] rfl
  refine WL.callX rfl (tr_places d tb ab rt fu ln l S vZ ([] : List PlC) (fun _ => False) ([] : List TPl) rt 1 (by assumption) (hPk (by simpa using h1)) (by omega) (by simp only [List.length_nil]; rw [plcL, if_pos (by simpa using h1)] at hb; omega) (M.eF fq ⟨(M.rF fq 0 rfl), trivial⟩)) (CallsF.func Try.en62 rfl) ?_
  rintro v3 w6 ⟨_, cs4, N5, rfl, m⟩
  replace M := M.lF fq m
  clear m
  have sl7 : IsSl v3 := SlAt.isSl (own_slAt (Mem.chunk M 1 rfl).inv)
  have hle8 := SlAt.le' (own_slAt (Mem.chunk M 1 rfl).inv)
  refine wA v3 (WL.nil ?_)
  refine W.ret ?_
  refine ⟨.inl rfl, v3, ?_, ?_⟩
  · exact ⟨rfl, (Res.r1 (show RV _ _ _ (.tmp 2) v3 from by exact rfl))⟩
  have e9 : plcL fu d l rt = ([] : List TPl) ++ placesT d l rt 1 := by
   simp [plcL, (by simpa using h1)]
  replace M := M.rechunk 2 (c' := rowsC 9 N5 0 cs4 (plcL fu d l rt)) rfl (congrArg (fun z => rowsC 9 N5 0 cs4 z) e9.symm)
  refine ⟨v3, cs4, N5, ?_, M.close [0, 1, 2] rfl (by decide) trivial⟩
  rfl
theorem tr_Places0 {G : Nat → Prop} {w : World}    (M : Mem G (fun _ => False) w [] [] w) : Rets Try.prog 32 #[vN] w fun r w' => r = vZ ∧ Mem G (fun _ => False) w [] [] w' := by
 refine Rets.enter 18 _ Try.func32 rfl Try.ntmps32 Try.results32 (by simp) ?_
 refine wR (wA vZ (WL.nil (W.seq' (wR (wM vN ?_)))))
 refine wP (vB true) (wM (vB true) ?_)
 refine WL.pass rfl ?_
 refine WL.pass rfl ?_
 refine WL.pass rfl ?_
 refine WL.pass rfl ?_
 refine WL.pass rfl ?_
 refine wS (vB true) rfl (Step.pick (t := true) rfl rfl) (WL.nil ?_)
 refine W.cond (t := true) rfl (fun _ => ?_) (fun h => by cases h)
 refine wR (wA vZ (WL.nil ?_))
 refine W.ret ?_
 refine ⟨.inl rfl, vZ, ?_, ?_⟩
 · exact ⟨rfl, (Res.r1 (show RV _ _ _ (.tmp 2) vZ from by exact rfl))⟩
 refine ⟨?_, M.close [] rfl (by decide) trivial⟩
 rfl
theorem chk_leaf {G : Nat → Prop} {w : World} (p : PlC) (db : Nat) (deep : Int)  (hh : p.leaf = true → p.depth = deep) (M : Mem G (fun _ => False) w [] [bF db #[(vI deep)] 3] w) : Rets Try.prog 65 #[(Value.agg #[(vI p.depth), (vB p.leaf), p.kv.1]), (vP db)] w fun r w' => r = (vB false) ∧ Mem G (fun _ => False) w [] [] w' := by
 refine Rets.enter 12 _ Try.func65 rfl Try.ntmps65 Try.results65 (by simp) ?_
 refine wR ?_
 refine WL.box (v := (Value.agg #[(vI p.depth), (vB p.leaf), p.kv.1])) (c := #[(vI p.depth), (vB p.leaf), p.kv.1]) M rfl rfl rfl (fun b1 w2 hb1 M => ?_)
 refine wA (vB false) (WL.nil (wR (wP (Value.pointer (some ⟨b1, 1, none⟩)) (wS (vB p.leaf) rfl (Step.load1 Try.sc4 rfl ((M.cell 0 rfl 1).trans rfl)) (wM (vB p.leaf) ?_)))))
 rcases Bool.eq_false_or_eq_true (p.leaf) with h3 | h3
 ·
  rw [h3]
  refine wP (vP b1) (wS (vI p.depth) rfl (Step.load1 Try.sc3 rfl ((M.cell 0 rfl 0).trans rfl)) (wS (vI deep) rfl (Step.load1 Try.sc3 rfl ((cell_blk (M.rep 0 rfl) 0).trans rfl)) (wP (vB ((p.depth : Int) != (deep : Int))) (wS (vB ((p.depth : Int) != (deep : Int))) rfl (Step.pick (t := true) rfl rfl) (wA (vB ((p.depth : Int) != (deep : Int))) ?_)))))
  refine WL.nil ?_
  refine W.ret ?_
  refine ⟨.inl rfl, (vB ((p.depth : Int) != (deep : Int))), ?_, ?_⟩
  · exact ⟨rfl, (Res.r1 (show RV _ _ _ (.tmp 3) (vB ((p.depth : Int) != (deep : Int))) from by exact rfl))⟩
  refine ⟨?_, M.close [] rfl (by decide) trivial⟩
  refine congrArg Value.bool ?_
  first | rfl | (simp_all; done)
 ·
  rw [h3]
  refine WL.pass rfl ?_
  refine WL.pass rfl ?_
  refine WL.pass rfl ?_
  refine WL.pass rfl ?_
  refine wS (vB false) rfl (Step.pick (t := false) rfl rfl) (wA (vB false) (WL.nil ?_))
  refine W.ret ?_
  refine ⟨.inl rfl, (vB false), ?_, ?_⟩
  · exact ⟨rfl, (Res.r1 (show RV _ _ _ (.tmp 3) (vB false) from by exact rfl))⟩
  refine ⟨?_, M.close [] rfl (by decide) trivial⟩
  rfl
theorem chk_rise {G : Nat → Prop} {w : World} (a : THit) (b : THit)  (hh : sLt a.key b.key = false) (M : Mem G (fun _ => False) w [] [] w) : Rets Try.prog 67 #[(Value.agg #[(vS a.key), (vI a.val)]), (Value.agg #[(vS b.key), (vI b.val)])] w fun r w' => r = (vI 1) ∧ Mem G (fun _ => False) w [] [] w' := by
 refine Rets.enter 10 _ Try.func67 rfl Try.ntmps67 Try.results67 (by simp) ?_
 refine wR ?_
 refine WL.box (v := (Value.agg #[(vS a.key), (vI a.val)])) (c := #[(vS a.key), (vI a.val)]) M rfl rfl rfl (fun b1 w2 hb1 M => ?_)
 refine WL.box (v := (Value.agg #[(vS b.key), (vI b.val)])) (c := #[(vS b.key), (vI b.val)]) M rfl rfl rfl (fun b3 w4 hb3 M => ?_)
 refine wA (vI 0) (WL.nil (W.seq' (wR (wP (vP b1) (wS (vS a.key) rfl (Step.load1 Try.sc9 rfl ((M.cell 1 rfl 0).trans rfl)) ?_)))))
 refine wP (vP b3) (wS (vS b.key) rfl (Step.load1 Try.sc9 rfl ((M.cell 0 rfl 0).trans rfl)) (wP (vB (sLt a.key b.key)) (WL.nil ?_)))
 refine W.cond (t := sLt a.key b.key) rfl (fun h5 => ?_) (fun h5 => ?_)
 ·
  rw [hh] at h5; cases h5
 ·
  refine W.skip (wR (wA (vI 1) (WL.nil ?_)))
  refine W.ret ?_
  refine ⟨.inl rfl, (vI 1), ?_, ?_⟩
  · exact ⟨rfl, (Res.r1 (show RV _ _ _ (.tmp 4) (vI 1) from by exact rfl))⟩
  refine ⟨?_, M.close [] rfl (by decide) trivial⟩
  rfl
theorem is_sorted {G : Nat → Prop} {w : World} (v : Value) (xs : List THit)  (hu : upT xs) (M : Mem G (fun _ => False) w [] [fR v xs] w) : Rets Try.prog 66 #[v, (Value.func (.func 67) #[] #[])] w fun r w' => r = (vB true) ∧ Mem G (fun _ => False) w [] [] w' := by
 refine Rets.enter 25 _ Try.func66 rfl Try.ntmps66 Try.results66 (by simp) ?_
 have hle1 := SlAt.le' (M.rep 0 rfl)
 have sl2 : IsSl v := SlAt.isSl (Mem.rep M 0 rfl)
 refine wR (wA (vB false) (WL.nil (W.seq' (wR (wM v ?_)))))
 refine wS (vI ↑xs.length) rfl (Step.lenSl Try.un34 rfl (M.rep 0 rfl)) (wS (vI ((↑xs.length : Int) - 1)) rfl (Step.sub rfl rfl (wrap_i64 (by omega))) (wA (vI ((↑xs.length : Int) - 1)) (WL.nil (W.block ?_))))
 refine W.loop (fun kk ρ w' => ∃ (m_ : Nat), ((m_ ≤ xs.length) ∧ kk = m_ + 1) ∧ ρ.has [(0, v), (1, (Value.func (.func 67) #[] #[])), (5, (vI ((↑m_ : Int) - 1)))] ∧ Mem G (fun _ => False) w [] [fR v xs]  w') _ ⟨xs.length, ⟨(Nat.le_refl _), rfl⟩, ⟨rfl, rfl, rfl, rfl, rfl⟩, M⟩ ?_
 rintro _ ρ4 w3 ⟨m_, ⟨hi5, rfl⟩, hρ, M⟩
 obtain ⟨ρ4, rfl⟩ := hρ.know
 clear hρ
 refine W.seq' (wR (wM (vI ((↑m_ : Int) - 1)) (wP (vB (decide (((↑m_ : Int) - 1 : Int) > (0 : Int)))) (WL.nil ?_))))
 refine W.cond (t := decide (((↑m_ : Int) - 1 : Int) > (0 : Int))) rfl (fun h6 => ?_) (fun h6 => ?_)
 ·
  have h6p := of_decide_eq_true h6
  refine W.skip (W.seq' (W.block (W.seq' ?_)))
  obtain ⟨cap8, hb7⟩ := SlAt.base (M.rep 0 rfl) (by omega)
  obtain ⟨x9, hx9⟩ := elem_of_lt (xs := xs) (i := m_ - 1) (by omega)
  obtain ⟨x10, hx10⟩ := elem_of_lt (xs := xs) (i := m_ - 1 - 1) (by omega)
  refine W.drawn M [0, 1, 2, 3, 4, 5, 6, 7, 8, 9, 10, 11] [10] [] _ _ sE (fun _ h => h) Try.mixed (by kernel_rfl) ?_
  refine tP (Value.func (.func 67) #[] #[]) rfl (fun w => (Step.move rfl)) ?_
  refine tP v rfl (fun w => (Step.move rfl)) ?_
  refine tP (vI ((↑m_ : Int) - 1)) rfl (fun w => (Step.move rfl)) ?_
  refine tP (vQ v (m_ - 1) 2) rfl (fun w => (sX (m_ - 1) Try.un34 Try.el41 rfl rfl hb7)) ?_
  refine tR (Value.agg #[(vS x9.key), (vI x9.val)]) rfl (fun A w M => (Step.loadEN (k := 0) (cs' := [(vS x9.key), (vI x9.val)]) Try.ag41 (flat_ec (M.rep 0 rfl) hx9 hitE_len) (by decide) rfl rfl rfl)) ?_
  refine tP v rfl (fun w => (Step.move rfl)) ?_
  refine tP (vI ((↑m_ : Int) - 1)) rfl (fun w => (Step.move rfl)) ?_
  refine tP (vI ((↑(m_ - 1) : Int) - 1)) rfl (fun w => (Step.cast (congrArg (Value.int .i64) (by omega)) (Step.sub rfl rfl (wrap_i64 (by omega))))) ?_
  refine tP (vQ v (m_ - 1 - 1) 2) rfl (fun w => (sX (m_ - 1 - 1) Try.un34 Try.el41 rfl rfl hb7)) ?_
  refine tR (Value.agg #[(vS x10.key), (vI x10.val)]) rfl (fun A w M => (Step.loadEN (k := 0) (cs' := [(vS x10.key), (vI x10.val)]) Try.ag41 (flat_ec (M.rep 0 rfl) hx10 hitE_len) (by decide) rfl rfl rfl)) ?_
  refine TW.callX (ι := Unit) (fun jx v_ => v_ = (vI 1)) (fun jx => []) (fun jx => [fR v xs]) rfl (by decide) rfl (fun jx => sE) (fun jx r h => h) (fun A w M => Rets.mono (chk_rise x9 x10 (up_not hu hx10 hx9 (by omega)) (M.enterW0 trivial)) (fun v_ w_ ⟨e_, m⟩ => ⟨(), e_, (M.leaveW0 m).sel [0] rfl (by decide), fun b hb => M.k0F m b hb⟩)) (fun w => CallsF.value Try.en67 rfl rfl rfl) (fun jx v hp hin => ?_)
  replace hp := hp.symm; subst hp
  clear hin
  refine tP (vB false) rfl (fun w => sP) ?_
  refine TW.done (fun w11 M => ?_)
  refine W.cond (t := false) rfl (fun h => by cases h) (fun _ => ?_)
  refine W.skip (W.region rfl (wM (vI ((↑m_ : Int) - 1)) (wS (vI ((↑(m_ - 1) : Int) - 1)) rfl (Step.cast (congrArg (Value.int .i64) (by omega)) (Step.sub rfl rfl (wrap_i64 (by omega)))) (wS (vI ((↑(m_ - 1) : Int) - 1)) rfl (Step.cast (congrArg (Value.int .i64) (by omega)) (Step.assign rfl)) (WL.nil ?_)))))
  exact ⟨_, (by omega), m_ - 1, ⟨(by omega), rfl⟩, ⟨rfl, rfl, rfl, rfl, rfl⟩, M⟩
 ·
  have h6p := of_decide_eq_false h6
  refine W.exit ?_
  refine thn_exit ?_
  refine thn_exit ?_
  refine inBlk_hit ?_
  refine wR (wA (vB true) (WL.nil ?_))
  refine W.ret ?_
  refine ⟨.inl rfl, (vB true), ?_, ?_⟩
  · exact ⟨rfl, (Res.r1 (show RV _ _ _ (.tmp 4) (vB true) from by exact rfl))⟩
  refine ⟨?_, M.close [] rfl (by decide) trivial⟩
  rfl
theorem index_pl {G : Nat → Prop} {w : World} (v : Value) (xs : List PlC) (db : Nat) (deep : Int)  (hnl : ∀ x : PlC, x ∈ xs → x.leaf = true → x.depth = deep) (M : Mem G (fun _ => False) w [] [fP v xs, bF db #[(vI deep)] 3] w) : Rets Try.prog 99 #[v, (Value.func (.func 65) #[] #[(vP db)])] w fun r w' => r = (vI (-1)) ∧ Mem G (fun _ => False) w [] [] w' := by
 refine Rets.enter 19 _ Try.func99 rfl Try.ntmps99 Try.results99 (by simp) ?_
 have hle1 := SlAt.le' (M.rep 0 rfl)
 have sl2 : IsSl v := SlAt.isSl (Mem.rep M 0 rfl)
 refine wR (wA (vI 0) (WL.nil (W.seq' (wR (wM v ?_)))))
 refine wS (vI ↑xs.length) rfl (Step.lenSl Try.un65 rfl (M.rep 0 rfl)) (wM (vI 0) (WL.nil (W.block ?_)))
 refine W.loop (fun kk ρ w' => ∃ (i_ : Nat), ((i_ ≤ xs.length) ∧ kk = xs.length - i_) ∧ ρ.has [(0, v), (1, (Value.func (.func 65) #[] #[(vP db)])), (7, (vI ↑xs.length)), (8, (vI ↑i_))] ∧ Mem G (fun _ => False) w [] [fP v xs, bF db #[(vI deep)] 3]  w') _ ⟨0, ⟨(Nat.zero_le _), rfl⟩, ⟨rfl, rfl, rfl, rfl, rfl, rfl⟩, M⟩ ?_
 rintro _ ρ4 w3 ⟨i_, ⟨hi5, rfl⟩, hρ, M⟩
 obtain ⟨ρ4, rfl⟩ := hρ.know
 clear hρ
 refine wR (wP (vB (decide ((↑i_ : Int) < (↑xs.length : Int)))) (WL.nil (W.seq' ?_)))
 refine W.cond (t := decide ((↑i_ : Int) < (↑xs.length : Int))) rfl (fun h6 => ?_) (fun h6 => ?_)
 ·
  have h6p := of_decide_eq_true h6
  refine W.skip (W.seq' (W.block (wR (wM (vI ↑i_) (wA (vI ↑i_) ?_)))))
  refine WL.nil (wR (wM (Value.func (.func 65) #[] #[(vP db)]) (wM v (wM (vI ↑i_) ?_))))
  obtain ⟨cap8, hb7⟩ := SlAt.base (M.rep 0 rfl) (by omega)
  obtain ⟨x9, hx9⟩ := elem_of_lt (xs := xs) (i := i_) (by omega)
  refine wS (vQ v i_ 3) rfl (sX i_ Try.un65 Try.el74 rfl rfl hb7) (wS (Value.agg #[(vI x9.depth), (vB x9.leaf), x9.kv.1]) rfl (Step.loadEN (k := 0) (cs' := [(vI x9.depth), (vB x9.leaf), x9.kv.1]) Try.ag74 (flat_ec (M.rep 0 rfl) hx9 plcE_len) (by decide) rfl rfl rfl) ?_)
  refine WL.callX rfl (chk_leaf x9 db deep (hnl _ (List.mem_of_getElem? hx9)) (M.enterW0 ⟨(M.wideR0 1 rfl), trivial⟩)) (CallsF.value Try.en65 rfl rfl rfl) ?_
  rintro _ w10 ⟨rfl, m⟩
  replace M := M.leaveW0 m
  clear m
  refine WL.nil ?_
  refine W.cond (t := false) rfl (fun h => by cases h) (fun _ => ?_)
  refine W.skip (W.region rfl (wS (vI (↑i_ + 1)) rfl (Step.add rfl rfl (wrap_i64 (by omega))) (wM (vI (↑i_ + 1)) (WL.nil ?_))))
  exact ⟨_, (by omega), i_ + 1, ⟨(by omega), rfl⟩, ⟨rfl, rfl, rfl, rfl, rfl, rfl⟩, M⟩
 ·
  have h6p := of_decide_eq_false h6
  refine W.exit ?_
  refine thn_exit ?_
  refine thn_exit ?_
  refine inBlk_hit ?_
  refine wR (wA (vI (-1)) (WL.nil ?_))
  refine W.ret ?_
  refine ⟨.inl rfl, (vI (-1)), ?_, ?_⟩
  · exact ⟨rfl, (Res.r1 (show RV _ _ _ (.tmp 4) (vI (-1)) from by exact rfl))⟩
  refine ⟨?_, M.close [] rfl (by decide) trivial⟩
  rfl
theorem contains_pl {G : Nat → Prop} {w : World} (v : Value) (xs : List PlC) (db : Nat) (deep : Int)  (hnl : ∀ x : PlC, x ∈ xs → x.leaf = true → x.depth = deep) (M : Mem G (fun _ => False) w [] [fP v xs, bF db #[(vI deep)] 3] w) : Rets Try.prog 64 #[v, (Value.func (.func 65) #[] #[(vP db)])] w fun r w' => r = (vB false) ∧ Mem G (fun _ => False) w [] [] w' := by
 refine Rets.enter 9 _ Try.func64 rfl Try.ntmps64 Try.results64 (by simp) ?_
 have hle1 := SlAt.le' (M.rep 0 rfl)
 have sl2 : IsSl v := SlAt.isSl (Mem.rep M 0 rfl)
 refine wR (wA (vB false) (WL.nil (wR (wM v (wM (Value.func (.func 65) #[] #[(vP db)]) ?_)))))
 refine WL.callX rfl (index_pl v xs db deep (by assumption) (M.enterW0 ⟨(M.wideR0 0 rfl), (M.wideR0 1 rfl), trivial⟩)) (CallsF.func Try.en99 rfl) ?_
 rintro _ w3 ⟨rfl, m⟩
 replace M := M.leaveW0 m
 clear m
 refine wP (vB false) (wA (vB false) (WL.nil ?_))
 refine W.ret ?_
 refine ⟨.inl rfl, (vB false), ?_, ?_⟩
 · exact ⟨rfl, (Res.r1 (show RV _ _ _ (.tmp 4) (vB false) from by exact rfl))⟩
 refine ⟨?_, M.close [] rfl (by decide) trivial⟩
 rfl
end Go.Proofs
set_option maxRecDepth 100000
namespace Go.Proofs
open Go Tp
theorem Try.en32 : Enters Try.prog 32 := fun _ _ => by kernel_rfl
theorem Try.en38 : Enters Try.prog 38 := fun _ _ => by kernel_rfl
theorem Try.en63 : Enters Try.prog 63 := fun _ _ => by kernel_rfl
theorem Try.en64 : Enters Try.prog 64 := fun _ _ => by kernel_rfl
theorem Try.en66 : Enters Try.prog 66 := fun _ _ => by kernel_rfl
theorem tr_check {G X : Nat → Prop} {w : World} (tb ab : Nat) (rt : Handle) (fu : Bool) (ln : Int) (l : List RPlace) (S : Nat → Prop)  (hA : SmallA l) (d : Nat) (hLk : fu = true → lookOk d l rt) (hPk : fu = true → plOk d l rt) (hd : d ≤ 900000) (hb : (plcL fu d l rt).length ≤ 1000000) (row : List THit) (D : Nat) (hP : PlcOk row (plcL fu d l rt) D) (hD : D ≤ 900000) (hup : upT (allL fu d l rt)) (hln : ((allL fu d l rt).length : Int) = ln) (hlb : ln ≤ 1000000) (hus : usedN l = (plcL fu d l rt).length) (M : Mem G X w [arenaC 143 145 S ab l] [bF tb #[(vP ab), (vI rt.at_), (vI rt.turn), (vB fu), (vI ln)] 94] w) : Rets Try.prog 33 #[(vP tb)] w fun r w' => r = (vI 0) ∧ Mem G X w [arenaC 143 145 S ab l] [] w' := by
 refine Rets.enter 87 _ Try.func33 rfl Try.ntmps33 Try.results33 (by simp) ?_
 refine wR (wA (vI 0) (WL.nil (W.seq' (wR (wM (vP tb) ?_)))))
 refine wP (vB false) (WL.nil ?_)
 refine W.cond (t := false) rfl (fun h => by cases h) (fun _ => ?_)
 refine W.skip (wR (wM (vP tb) (wP (vP tb) (wP (vP tb) (wS (vP ab) rfl (Step.load1 Try.sc90 rfl ((cell_blk (M.rep 0 rfl) 0).trans rfl)) ?_)))))
 have fq := M.frm [arenaC 143 145 S ab l] [] [0] rfl
 refine WL.callX rfl (ar_len ab l S (M.eF fq trivial)) (CallsF.func Try.en63 rfl) ?_
 rintro _ w1 ⟨rfl, m⟩
 replace M := M.lF fq m
 clear m
 refine wM (Value.tuple #[(vI (↑(usedN l))), (vI ↑l.length)]) (wP (vI (↑(usedN l))) (wP (vI ↑l.length) (wA (vI (↑(usedN l))) (wA (vI ↑l.length) (WL.nil ?_)))))
 refine wR (wM (vP tb) ?_)
 have fq := M.frm [arenaC 143 145 S ab l] [] [0] rfl
 refine WL.callX rfl (tr_Places tb ab rt fu ln l S (by assumption) d (by assumption) (by assumption) (by assumption) (M.eF fq ⟨(M.rF fq 0 rfl), trivial⟩)) (CallsF.func Try.en32 rfl) ?_
 rintro v2 w5 ⟨_, cs3, N4, rfl, m⟩
 replace M := M.lF fq m
 clear m
 have sl6 : IsSl v2 := SlAt.isSl (own_slAt (Mem.chunk M 1 rfl).inv)
 have hle7 := SlAt.le' (own_slAt (Mem.chunk M 1 rfl).inv)
 refine wA v2 (WL.nil (wR ?_))
 refine WL.alloc (c := #[(vI 0)]) M rfl Try.el3.zero rfl (fun b8 w9 hb8 M => ?_)
 refine WL.store (v := (vI 0)) (cs := [(vI 0)]) (c' := #[(vI 0)]) M 0 rfl rfl Try.el3.sized rfl rfl rfl rfl (Nat.le_of_ble_eq_true rfl) (cel_cons rfl cel_nil) rfl rfl (fun w10 M => ?_)
 refine WL.nil (W.seq' (wR (wM v2 (wS (vI ↑cs3.length) rfl (Step.lenSl Try.un65 rfl (own_slAt (M.chunk 2 rfl).inv)) (wM (vI 0) ?_)))))
 refine WL.nil (W.block ?_)
 replace M := M.sel (L' := [bk b8 #[(vI 0)] 3, arenaC 143 145 S ab l, oP v2 cs3, rowsC 9 N4 0 cs3 (plcL fu d l rt)]) [0, 1, 2, 3] rfl (by decide)
 refine W.loop (fun kk ρ w' => ∃ (i_ : Nat) (D_ : Int), ((i_ ≤ cs3.length) ∧ (D_ = 0 ∨ D_ = (D : Int)) ∧ (∀ (j : Nat) (p : TPl), j < i_ → (plcL fu d l rt)[j]? = some p → p.leaf = true → D_ = (D : Int)) ∧ kk = cs3.length - i_) ∧ ρ.has [(0, (vP tb)), (3, (vI (↑(usedN l)))), (5, v2), (6, (vP b8)), (24, v2), (25, (vI ↑cs3.length)), (26, (vI ↑i_))] ∧ Mem G X w [bk b8 #[(vI D_)] 3, arenaC 143 145 S ab l, oP v2 cs3, rowsC 9 N4 0 cs3 (plcL fu d l rt)] [bF tb #[(vP ab), (vI rt.at_), (vI rt.turn), (vB fu), (vI ln)] 94]  w') _ ⟨0, 0, ⟨(Nat.zero_le _), (.inl rfl), (fun _ _ h => absurd h (Nat.not_lt_zero _)), rfl⟩, ⟨rfl, rfl, rfl, rfl, rfl, rfl, rfl, rfl, rfl⟩, M⟩ ?_
 rintro _ ρ12 w11 ⟨i_, D_, ⟨hi13, hi14, hi15, rfl⟩, hρ, M⟩
 obtain ⟨ρ12, rfl⟩ := hρ.know
 clear hρ
 obtain ⟨hc1_, hc2_, hc3_⟩ := (⟨hi13, hi14, hi15⟩ : i_ ≤ cs3.length ∧ (D_ = 0 ∨ D_ = (D : Int)) ∧ ∀ (j : Nat) (p : TPl), j < i_ → (plcL fu d l rt)[j]? = some p → p.leaf = true → D_ = (D : Int))
 refine wR (wP (vB (decide ((↑i_ : Int) < (↑cs3.length : Int)))) (WL.nil (W.seq' ?_)))
 refine W.cond (t := decide ((↑i_ : Int) < (↑cs3.length : Int))) rfl (fun h16 => ?_) (fun h16 => ?_)
 ·
  have h16p := of_decide_eq_true h16
  refine W.skip (W.seq' (W.block (wR (wM (vI ↑i_) ?_))))
  obtain ⟨cap18, hb17⟩ := SlAt.base (own_slAt (M.chunk 2 rfl).inv) (by omega)
  obtain ⟨x19, hx19⟩ := elem_of_lt (xs := cs3) (i := i_) (by omega)
  obtain ⟨p_, hp_, hdp_, hlp_, hsp_⟩ := rows_at (M.chunk 3 rfl).inv hx19
  have hsh_ := SlAt.shp (hsp_ (Nat.zero_le _))
  obtain ⟨hk1_, hk4_, hk2_⟩ := hP.keys _ _ hp_
  refine wS (vQ v2 i_ 3) rfl (sX i_ Try.un65 Try.el74 rfl rfl hb17) (wS (Value.agg #[(vI x19.depth), (vB x19.leaf), x19.kv.1]) rfl (Step.loadEN (k := 0) (cs' := [(vI x19.depth), (vB x19.leaf), x19.kv.1]) Try.ag74 (flat_ec (own_slAt (M.chunk 2 rfl).inv) hx19 plcE_len) (by decide) rfl rfl rfl) ?_)
  refine WL.alloc (c := #[(vI 0), (vB false), vZ]) M rfl Try.el74.zero rfl (fun b20 w21 hb20 M => ?_)
  refine wA (vI ↑i_) ?_
  refine WL.store (v := (Value.agg #[(vI x19.depth), (vB x19.leaf), x19.kv.1])) (cs := [(vI x19.depth), (vB x19.leaf), x19.kv.1]) (c' := #[(vI x19.depth), (vB x19.leaf), x19.kv.1]) M 0 rfl rfl Try.el74.sized rfl rfl rfl rfl (Nat.le_of_ble_eq_true rfl) (cel_cons rfl (cel_cons rfl (cel_cons (IsSl.cel x19.kv.2) cel_nil))) rfl rfl (fun w22 M => ?_)
  refine WL.nil (W.seq' (wR (wP (Value.pointer (some ⟨b20, 1, none⟩)) (wS (vB x19.leaf) rfl (Step.load1 Try.sc4 rfl ((M.cell 0 rfl 1).trans rfl)) (WL.nil ?_)))))
  refine W.cond (t := x19.leaf) rfl (fun h23 => ?_) (fun h23 => ?_)
  ·
   refine W.region rfl (wS (vI D_) rfl (Step.load1 Try.sc3 rfl ((M.cell 1 rfl 0).trans rfl)) (wP (vP b20) (wS (vI x19.depth) rfl (Step.load1 Try.sc3 rfl ((M.cell 0 rfl 0).trans rfl)) (wS (vI (max (D_ : Int) (x19.depth : Int))) rfl (Step.maxI rfl rfl) ?_))))
   refine WL.store (v := (vI (max (D_ : Int) (x19.depth : Int)))) (cs := [(vI (max (D_ : Int) (x19.depth : Int)))]) (c' := #[(vI (max (D_ : Int) (x19.depth : Int)))]) M 1 rfl rfl Try.el3.sized rfl rfl rfl rfl (Nat.le_of_ble_eq_true rfl) (cel_cons rfl cel_nil) rfl rfl (fun w24 M => ?_)
   refine WL.nil (wR (wP (Value.pointer (some ⟨b20, 2, none⟩)) (wS x19.kv.1 rfl (Step.load1 Try.sc22 rfl ((M.cell 0 rfl 2).trans rfl)) (wS (vI ↑p_.keys.length) rfl (Step.lenP Try.un22 rfl hsh_) (wP (vB (decide ((↑p_.keys.length : Int) > (4 : Int)))) ?_)))))
   refine wM (vB (decide ((↑p_.keys.length : Int) > (4 : Int)))) ?_
   rcases Bool.eq_false_or_eq_true (decide ((↑p_.keys.length : Int) > (4 : Int))) with h25 | h25
   ·
    have h25p := of_decide_eq_true h25
    omega
   ·
    have h25p := of_decide_eq_false h25
    rw [h25]
    refine wP (Value.pointer (some ⟨b20, 2, none⟩)) (wS x19.kv.1 rfl (Step.load1 Try.sc22 rfl ((M.cell 0 rfl 2).trans rfl)) (wS (vI ↑p_.keys.length) rfl (Step.lenP Try.un22 rfl hsh_) (wP (vB (decide ((↑p_.keys.length : Int) < (2 : Int)))) (wM (vB (decide ((↑p_.keys.length : Int) < (2 : Int)))) ?_))))
    rcases Bool.eq_false_or_eq_true (decide ((↑p_.keys.length : Int) < (2 : Int))) with h26 | h26
    ·
     have h26p := of_decide_eq_true h26
     rw [h26]
     refine wM (vI ↑i_) (wP (vB (decide ((↑i_ : Int) > (0 : Int)))) (wS (vB (decide ((↑i_ : Int) > (0 : Int)))) rfl (Step.pick (t := true) rfl rfl) (wS (vB (decide ((↑i_ : Int) > (0 : Int)))) rfl (Step.pick (t := false) rfl rfl) (wM (vB (decide ((↑i_ : Int) > (0 : Int)))) ?_))))
     rcases Bool.eq_false_or_eq_true (decide ((↑i_ : Int) > (0 : Int))) with h27 | h27
     ·
      have h27p := of_decide_eq_true h27
      omega
     ·
      have h27p := of_decide_eq_false h27
      rw [h27]
      refine wP (Value.pointer (some ⟨b20, 2, none⟩)) (wS x19.kv.1 rfl (Step.load1 Try.sc22 rfl ((M.cell 0 rfl 2).trans rfl)) (wS (vI ↑p_.keys.length) rfl (Step.lenP Try.un22 rfl hsh_) (wP (vB ((↑p_.keys.length : Int) == (0 : Int))) (wS (vB ((↑p_.keys.length : Int) == (0 : Int))) rfl (Step.pick (t := false) rfl rfl) (WL.nil ?_)))))
      refine W.cond (t := (↑p_.keys.length : Int) == (0 : Int)) rfl (fun h28 => ?_) (fun h28 => ?_)
      ·
       have h28p : (↑p_.keys.length : Int) = (0 : Int) := by simpa using h28
       omega
      ·
       have h28p : ¬ (↑p_.keys.length : Int) = (0 : Int) := by simpa using h28
       refine W.skip (W.region rfl (wS (vI (↑i_ + 1)) rfl (Step.add rfl rfl (wrap_i64 (by omega))) (wM (vI (↑i_ + 1)) (WL.nil ?_))))
       have hlf_ : p_.leaf = true := by rw [← hlp_]; exact h23
       have hDp_ := hP.leaf p_ (List.mem_of_getElem? hp_) hlf_
       have hmx_ : max (D_ : Int) (x19.depth : Int) = (D : Int) := by rcases hc2_ with h_ | h_ <;> omega
       replace M := M.rechunk 1 (c' := bk b8 #[(vI (D : Int))] 3) rfl (by rw [hmx_])
       replace M := M.sel (L' := [bk b8 #[(vI (D : Int))] 3, arenaC 143 145 S ab l, oP v2 cs3, rowsC 9 N4 0 cs3 (plcL fu d l rt)]) [1, 2, 3, 4] rfl (by decide)
       exact ⟨_, (by omega), i_ + 1, (D : Int), ⟨(by omega), (.inr rfl), (fun _ _ _ _ _ => rfl), rfl⟩, ⟨rfl, rfl, rfl, rfl, rfl, rfl, rfl, rfl, rfl⟩, M⟩
    ·
     have h26p := of_decide_eq_false h26
     rw [h26]
     refine WL.pass rfl ?_
     refine WL.pass rfl ?_
     refine wS (vB false) rfl (Step.pick (t := false) rfl rfl) (wS (vB false) rfl (Step.pick (t := false) rfl rfl) (wM (vB false) (wP (Value.pointer (some ⟨b20, 2, none⟩)) (wS x19.kv.1 rfl (Step.load1 Try.sc22 rfl ((M.cell 0 rfl 2).trans rfl)) (wS (vI ↑p_.keys.length) rfl (Step.lenP Try.un22 rfl hsh_) ?_)))))
     refine wP (vB ((↑p_.keys.length : Int) == (0 : Int))) (wS (vB ((↑p_.keys.length : Int) == (0 : Int))) rfl (Step.pick (t := false) rfl rfl) (WL.nil ?_))
     refine W.cond (t := (↑p_.keys.length : Int) == (0 : Int)) rfl (fun h29 => ?_) (fun h29 => ?_)
     ·
      have h29p : (↑p_.keys.length : Int) = (0 : Int) := by simpa using h29
      omega
     ·
      have h29p : ¬ (↑p_.keys.length : Int) = (0 : Int) := by simpa using h29
      refine W.skip (W.region rfl (wS (vI (↑i_ + 1)) rfl (Step.add rfl rfl (wrap_i64 (by omega))) (wM (vI (↑i_ + 1)) (WL.nil ?_))))
      have hlf_ : p_.leaf = true := by rw [← hlp_]; exact h23
      have hDp_ := hP.leaf p_ (List.mem_of_getElem? hp_) hlf_
      have hmx_ : max (D_ : Int) (x19.depth : Int) = (D : Int) := by rcases hc2_ with h_ | h_ <;> omega
      replace M := M.rechunk 1 (c' := bk b8 #[(vI (D : Int))] 3) rfl (by rw [hmx_])
      replace M := M.sel (L' := [bk b8 #[(vI (D : Int))] 3, arenaC 143 145 S ab l, oP v2 cs3, rowsC 9 N4 0 cs3 (plcL fu d l rt)]) [1, 2, 3, 4] rfl (by decide)
      exact ⟨_, (by omega), i_ + 1, (D : Int), ⟨(by omega), (.inr rfl), (fun _ _ _ _ _ => rfl), rfl⟩, ⟨rfl, rfl, rfl, rfl, rfl, rfl, rfl, rfl, rfl⟩, M⟩
  ·
   refine W.skip (wR (wP (Value.pointer (some ⟨b20, 2, none⟩)) (wS x19.kv.1 rfl (Step.load1 Try.sc22 rfl ((M.cell 0 rfl 2).trans rfl)) (wS (vI ↑p_.keys.length) rfl (Step.lenP Try.un22 rfl hsh_) (wP (vB (decide ((↑p_.keys.length : Int) > (4 : Int)))) ?_)))))
   refine wM (vB (decide ((↑p_.keys.length : Int) > (4 : Int)))) ?_
   rcases Bool.eq_false_or_eq_true (decide ((↑p_.keys.length : Int) > (4 : Int))) with h30 | h30
   ·
    have h30p := of_decide_eq_true h30
    omega
   ·
    have h30p := of_decide_eq_false h30
    rw [h30]
    refine wP (Value.pointer (some ⟨b20, 2, none⟩)) (wS x19.kv.1 rfl (Step.load1 Try.sc22 rfl ((M.cell 0 rfl 2).trans rfl)) (wS (vI ↑p_.keys.length) rfl (Step.lenP Try.un22 rfl hsh_) (wP (vB (decide ((↑p_.keys.length : Int) < (2 : Int)))) (wM (vB (decide ((↑p_.keys.length : Int) < (2 : Int)))) ?_))))
    rcases Bool.eq_false_or_eq_true (decide ((↑p_.keys.length : Int) < (2 : Int))) with h31 | h31
    ·
     have h31p := of_decide_eq_true h31
     rw [h31]
     refine wM (vI ↑i_) (wP (vB (decide ((↑i_ : Int) > (0 : Int)))) (wS (vB (decide ((↑i_ : Int) > (0 : Int)))) rfl (Step.pick (t := true) rfl rfl) (wS (vB (decide ((↑i_ : Int) > (0 : Int)))) rfl (Step.pick (t := false) rfl rfl) (wM (vB (decide ((↑i_ : Int) > (0 : Int)))) ?_))))
     rcases Bool.eq_false_or_eq_true (decide ((↑i_ : Int) > (0 : Int))) with h32 | h32
     ·
      have h32p := of_decide_eq_true h32
      omega
     ·
      have h32p := of_decide_eq_false h32
      rw [h32]
      refine wP (Value.pointer (some ⟨b20, 2, none⟩)) (wS x19.kv.1 rfl (Step.load1 Try.sc22 rfl ((M.cell 0 rfl 2).trans rfl)) (wS (vI ↑p_.keys.length) rfl (Step.lenP Try.un22 rfl hsh_) (wP (vB ((↑p_.keys.length : Int) == (0 : Int))) (wS (vB ((↑p_.keys.length : Int) == (0 : Int))) rfl (Step.pick (t := false) rfl rfl) (WL.nil ?_)))))
      refine W.cond (t := (↑p_.keys.length : Int) == (0 : Int)) rfl (fun h33 => ?_) (fun h33 => ?_)
      ·
       have h33p : (↑p_.keys.length : Int) = (0 : Int) := by simpa using h33
       omega
      ·
       have h33p : ¬ (↑p_.keys.length : Int) = (0 : Int) := by simpa using h33
       refine W.skip (W.region rfl (wS (vI (↑i_ + 1)) rfl (Step.add rfl rfl (wrap_i64 (by omega))) (wM (vI (↑i_ + 1)) (WL.nil ?_))))
       replace M := M.sel (L' := [bk b8 #[(vI D_)] 3, arenaC 143 145 S ab l, oP v2 cs3, rowsC 9 N4 0 cs3 (plcL fu d l rt)]) [1, 2, 3, 4] rfl (by decide)
       exact ⟨_, (by omega), i_ + 1, D_, ⟨(by omega), hc2_, (fun j p hj hp hl => (Nat.lt_succ_iff_lt_or_eq.1 hj).elim (fun h => hc3_ j p h hp hl) fun h => by subst h; rw [hp_] at hp; cases hp; rw [← hlp_, h23] at hl; cases hl), rfl⟩, ⟨rfl, rfl, rfl, rfl, rfl, rfl, rfl, rfl, rfl⟩, M⟩
    ·
     have h31p := of_decide_eq_false h31
     rw [h31]
     refine WL.pass rfl ?_
     refine WL.pass rfl ?_
     refine wS (vB false) rfl (Step.pick (t := false) rfl rfl) (wS (vB false) rfl (Step.pick (t := false) rfl rfl) (wM (vB false) (wP (Value.pointer (some ⟨b20, 2, none⟩)) (wS x19.kv.1 rfl (Step.load1 Try.sc22 rfl ((M.cell 0 rfl 2).trans rfl)) (wS (vI ↑p_.keys.length) rfl (Step.lenP Try.un22 rfl hsh_) ?_)))))
     refine wP (vB ((↑p_.keys.length : Int) == (0 : Int))) (wS (vB ((↑p_.keys.length : Int) == (0 : Int))) rfl (Step.pick (t := false) rfl rfl) (WL.nil ?_))
     refine W.cond (t := (↑p_.keys.length : Int) == (0 : Int)) rfl (fun h34 => ?_) (fun h34 => ?_)
     ·
      have h34p : (↑p_.keys.length : Int) = (0 : Int) := by simpa using h34
      omega
     ·
      have h34p : ¬ (↑p_.keys.length : Int) = (0 : Int) := by simpa using h34
      refine W.skip (W.region rfl (wS (vI (↑i_ + 1)) rfl (Step.add rfl rfl (wrap_i64 (by omega))) (wM (vI (↑i_ + 1)) (WL.nil ?_))))
      replace M := M.sel (L' := [bk b8 #[(vI D_)] 3, arenaC 143 145 S ab l, oP v2 cs3, rowsC 9 N4 0 cs3 (plcL fu d l rt)]) [1, 2, 3, 4] rfl (by decide)
      exact ⟨_, (by omega), i_ + 1, D_, ⟨(by omega), hc2_, (fun j p hj hp hl => (Nat.lt_succ_iff_lt_or_eq.1 hj).elim (fun h => hc3_ j p h hp hl) fun h => by subst h; rw [hp_] at hp; cases hp; rw [← hlp_, h23] at hl; cases hl), rfl⟩, ⟨rfl, rfl, rfl, rfl, rfl, rfl, rfl, rfl, rfl⟩, M⟩
 ·
  have h16p := of_decide_eq_false h16
  refine W.exit ?_
  refine thn_exit ?_
  refine thn_exit ?_
  refine inBlk_hit ?_
  refine W.seq' ?_
  have hcl_ := rows_len (M.chunk 3 rfl).inv
  have hnl_ : ∀ x : PlC, x ∈ cs3 → x.leaf = true → x.depth = D_ := by
    intro x hx hl
    obtain ⟨j, hj⟩ := List.getElem?_of_mem hx
    have hjl := (List.getElem?_eq_some_iff.1 hj).1
    obtain ⟨p, hp, h1, h2, _⟩ := rows_at (M.chunk 3 rfl).inv hj
    rw [h1, hc3_ j p (by omega) hp (h2 ▸ hl)]
    exact hP.leaf p (List.mem_of_getElem? hp) (h2 ▸ hl)
  refine W.region rfl (wM v2 (wP (Value.func (.func 65) #[] #[(vP b8)]) ?_))
  refine WL.callX rfl (contains_pl v2 cs3 b8 D_ (by assumption) (M.enterW0 ⟨((M.wideC0 2 rfl).imp fun _ h => own_slAt h), (M.wideC0 0 rfl), trivial⟩)) (CallsF.func Try.en64 rfl) ?_
  rintro _ w35 ⟨rfl, m⟩
  replace M := M.leaveW0 m
  clear m
  refine wP (vB true) (wA (vB true) (WL.nil (wR (wM (vP tb) ?_))))
  have fq := M.frm [arenaC 143 145 S ab l] [bk b8 #[(vI D_)] 3, oP v2 cs3, rowsC 9 N4 0 cs3 (plcL fu d l rt)] [1, 0, 2, 3] rfl
  refine WL.callX rfl (tr_all tb ab rt fu ln l S (by assumption) d (by assumption) (by omega) (M.eF fq ⟨(M.rF fq 0 rfl), trivial⟩)) (CallsF.func Try.en38 rfl) ?_
  rintro v36 w37 ⟨_, rfl, m⟩
  replace M := M.lF fq m
  clear m
  have sl38 : IsSl v36 := SlAt.isSl (own_slAt (Mem.chunk M 1 rfl).inv)
  have hle39 := SlAt.le' (own_slAt (Mem.chunk M 1 rfl).inv)
  refine wA v36 (WL.nil (wR (wM v36 ?_)))
  refine WL.callX rfl (is_sorted v36 (allL fu d l rt) (by assumption) (M.enterW0 ⟨((M.wideC0 1 rfl).imp fun _ h => own_slAt h), trivial⟩)) (CallsF.func Try.en66 rfl) ?_
  rintro _ w40 ⟨rfl, m⟩
  replace M := M.leaveW0 m
  clear m
  refine wA (vB true) (WL.nil (W.seq' (wR (wM (vB true) (wP (vB false) ?_)))))
  refine wM (vB false) (wM (vB true) (wP (vB false) (wS (vB false) rfl (Step.pick (t := false) rfl rfl) (wM (vB false) (wM v36 ?_)))))
  refine wS (vI (↑((allL fu d l rt).length))) rfl (Step.lenSl Try.un34 rfl (own_slAt (M.chunk 1 rfl).inv)) (wM (vP tb) (wP (vP tb) (wP (Value.pointer (some ⟨tb, 4, none⟩)) (wS (vI ln) rfl (Step.load1 Try.sc3 rfl ((cell_blk (M.rep 0 rfl) 4).trans rfl)) (wP (vB ((↑((allL fu d l rt).length) : Int) != (ln : Int))) ?_)))))
  refine wS (vB ((↑((allL fu d l rt).length) : Int) != (ln : Int))) rfl (Step.pick (t := false) rfl rfl) (wM (vB ((↑((allL fu d l rt).length) : Int) != (ln : Int))) ?_)
  rcases Bool.eq_false_or_eq_true ((↑((allL fu d l rt).length) : Int) != (ln : Int)) with h41 | h41
  ·
   have h41p : ¬ (↑((allL fu d l rt).length) : Int) = (ln : Int) := by simpa using h41
   omega
  ·
   have h41p : (↑((allL fu d l rt).length) : Int) = (ln : Int) := by simpa using h41
   rw [h41]
   refine wM (vI (↑(usedN l))) (wM v2 (wS (vI ↑cs3.length) rfl (Step.lenSl Try.un65 rfl (own_slAt (M.chunk 3 rfl).inv)) (wP (vB ((↑(usedN l) : Int) != (↑cs3.length : Int))) (wS (vB ((↑(usedN l) : Int) != (↑cs3.length : Int))) rfl (Step.pick (t := false) rfl rfl) (WL.nil ?_)))))
   refine W.cond (t := (↑(usedN l) : Int) != (↑cs3.length : Int)) rfl (fun h42 => ?_) (fun h42 => ?_)
   ·
    have h42p : ¬ (↑(usedN l) : Int) = (↑cs3.length : Int) := by simpa using h42
    omega
   ·
    have h42p : (↑(usedN l) : Int) = (↑cs3.length : Int) := by simpa using h42
    refine W.skip (wR (wA (vI 0) (WL.nil ?_)))
    refine W.ret ?_
    refine ⟨.inl rfl, (vI 0), ?_, ?_⟩
    · exact ⟨rfl, (Res.r1 (show RV _ _ _ (.tmp 2) (vI 0) from by exact rfl))⟩
    refine ⟨?_, M.close [0] rfl (by decide) trivial⟩
    rfl
theorem tr_check0 {G : Nat → Prop} {w : World}    (M : Mem G (fun _ => False) w [] [] w) : Rets Try.prog 33 #[vN] w fun r w' => r = (vI 1) ∧ Mem G (fun _ => False) w [] [] w' := by
 refine Rets.enter 87 _ Try.func33 rfl Try.ntmps33 Try.results33 (by simp) ?_
 refine wR (wA (vI 0) (WL.nil (W.seq' (wR (wM vN ?_)))))
 refine wP (vB true) (WL.nil ?_)
 refine W.cond (t := true) rfl (fun _ => ?_) (fun h => by cases h)
 refine wR (wA (vI 1) (WL.nil ?_))
 refine W.ret ?_
 refine ⟨.inl rfl, (vI 1), ?_, ?_⟩
 · exact ⟨rfl, (Res.r1 (show RV _ _ _ (.tmp 2) (vI 1) from by exact rfl))⟩
 refine ⟨?_, M.close [] rfl (by decide) trivial⟩
 rfl
end Go.Proofs
set_option maxRecDepth 100000
namespace Go.Proofs
open Go Tp
abbrev tT (S : Nat → Prop) (tb : Nat) (row : List THit) (c : Nat) : Chunk := tabC 94 143 145 S tb row c
theorem T_new {G : Nat → Prop} {w : World}    (M : Mem G (fun _ => False) w [] [] w) : Rets Try.prog 30 #[] w fun r w' => ∃ (tb' : Nat) (S' : Nat → Prop), r = (vP tb') ∧ Mem G (fun _ => False) w [tT S' tb' ([] : List THit) 0] [] w' := by
 refine Rets.mono (tab_new M) ?_
 rintro _ w' ⟨tb, ab, S', rfl, m⟩
 exact ⟨tb, _, rfl, Mem.pack (Ls := tabL 94 143 145 tb) (p := TabP [] 0) ⟨ab, ⟨0, 0⟩, false, 0, [], S'⟩ m ⟨0, 0, Tp.tab_new, Nat.le_refl _, Nat.le_refl _⟩⟩
theorem T_len {G X : Nat → Prop} {w : World} (tb : Nat) (S : Nat → Prop) (row : List THit) (c : Nat)   (M : Mem G X w [tT S tb row c] [] w) : Rets Try.prog 42 #[(vP tb)] w fun r w' => r = (vI ↑row.length) ∧ Mem G X w [tT S tb row c] [] w' := by
 obtain ⟨i, ⟨K, d, H, hK, hr⟩, rfl, M1⟩ := M.unpack
 refine Rets.mono (tab_len tb i.ab i.rt i.fu i.ln i.l i.S M1) ?_
 rintro _ w' ⟨rfl, m⟩
 exact ⟨by rw [H.len], Mem.pack (Ls := tabL 94 143 145 tb) (p := TabP row c) i m ⟨K, d, H, hK, hr⟩⟩
theorem T_put {G X : Nat → Prop} {w : World} (tb : Nat) (S : Nat → Prop) (row : List THit) (c : Nat) (k : ByteArray) (v : Int)  (hc : c ≤ 900) (M : Mem G X w [tT S tb row c] [] w) : Rets Try.prog 18 #[(vP tb), (vS k), (vI v)] w fun r w' => ∃ (S' : Nat → Prop), r = (Value.tuple #[(vI ((getL row k).1)), (vB ((getL row k).2))]) ∧ Mem G X w [tT S' tb (putR row (⟨k, v⟩ : THit)) (c + 1)] [] w' := by
 obtain ⟨i, ⟨K, d, H, hK, hr⟩, rfl, M1⟩ := M.unpack
 have hd := tab_deep H
 refine Rets.mono (tab_put tb i.ab i.rt i.fu i.ln i.l i.S k v (H.small' (by omega)) d (put_okW H (by omega)) (put_small H (by omega)) (by rw [H.len]; omega) M1) ?_
 rintro _ w' ⟨S', rfl, m⟩
 obtain ⟨_, _, e⟩ := put_tab (x := (⟨k, v⟩ : THit)) H
 exact ⟨_, by rw [e], Mem.pack (Ls := tabL 94 143 145 tb) (p := TabP (putR row (⟨k, v⟩ : THit)) (c + 1)) ⟨i.ab, _, true, _, _, S'⟩ m (put_row H hK hr hc)⟩
theorem T_delete {G X : Nat → Prop} {w : World} (tb : Nat) (S : Nat → Prop) (row : List THit) (c : Nat) (k : ByteArray)  (hc : c ≤ 900) (M : Mem G X w [tT S tb row c] [] w) : Rets Try.prog 19 #[(vP tb), (vS k)] w fun r w' => ∃ (S' : Nat → Prop), r = (Value.tuple #[(vI ((getL row k).1)), (vB ((getL row k).2))]) ∧ Mem G X w [tT S' tb (delL row k) c] [] w' := by
 obtain ⟨i, ⟨K, d, H, hK, hr⟩, rfl, M1⟩ := M.unpack
 refine Rets.mono (tab_delete tb i.ab i.rt i.fu i.ln i.l i.S k (H.small' (by omega)) d (tab_look H) (del_small H (by omega)) (by rw [H.len]; omega) M1) ?_
 rintro _ w' ⟨S', rfl, m⟩
 obtain ⟨d', H'⟩ := del_row (k := k) H
 exact ⟨_, by rw [tab_get H], Mem.pack (Ls := tabL 94 143 145 tb) (p := TabP (delL row k) c) ⟨i.ab, _, _, _, _, S'⟩ m ⟨K, d', H', hK, Nat.le_trans delL_le hr⟩⟩
theorem T_from {G X : Nat → Prop} {w : World} (tb : Nat) (S : Nat → Prop) (row : List THit) (c : Nat) (k : ByteArray)  (hc : c ≤ 900) (M : Mem G X w [tT S tb row c] [] w) : Rets Try.prog 45 #[(vP tb), (vS k)] w fun r w' => r = (Value.tuple #[(Value.agg #[(vS (((fromL row k).1).key)), (vI (((fromL row k).1).val))]), (vB ((fromL row k).2))]) ∧ Mem G X w [tT S tb row c] [] w' := by
 refine (tab_reads (ι := Unit) (fun _ => (Value.tuple #[(Value.agg #[(vS (((fromL row k).1).key)), (vI (((fromL row k).1).val))]), (vB ((fromL row k).2))])) (fun _ => []) M fun i ⟨K, d, H, hK, hr⟩ G' X' M' => ?_).mono fun v w' ⟨_, e, m⟩ => ⟨e, m⟩
 refine (tr_From tb i.ab i.rt i.fu i.ln i.l i.S k (H.small' (by omega)) d (tab_look H) M').mono fun v w' ⟨e, m⟩ => ⟨(), ?_, m⟩
 rw [e, tab_lookT H (upP_ge k)]; rfl
theorem T_before {G X : Nat → Prop} {w : World} (tb : Nat) (S : Nat → Prop) (row : List THit) (c : Nat) (k : ByteArray)  (hc : c ≤ 900) (M : Mem G X w [tT S tb row c] [] w) : Rets Try.prog 60 #[(vP tb), (vS k)] w fun r w' => r = (Value.tuple #[(Value.agg #[(vS (((beforeL row k).1).key)), (vI (((beforeL row k).1).val))]), (vB ((beforeL row k).2))]) ∧ Mem G X w [tT S tb row c] [] w' := by
 refine (tab_reads (ι := Unit) (fun _ => (Value.tuple #[(Value.agg #[(vS (((beforeL row k).1).key)), (vI (((beforeL row k).1).val))]), (vB ((beforeL row k).2))])) (fun _ => []) M fun i ⟨K, d, H, hK, hr⟩ G' X' M' => ?_).mono fun v w' ⟨_, e, m⟩ => ⟨e, m⟩
 refine (tr_Before tb i.ab i.rt i.fu i.ln i.l i.S k (H.small' (by omega)) d (tab_look H) M').mono fun v w' ⟨e, m⟩ => ⟨(), ?_, m⟩
 rw [e, tab_lookG H (downP_lt k)]; rfl
theorem T_places {G X : Nat → Prop} {w : World} (tb : Nat) (S : Nat → Prop) (row : List THit) (c : Nat)  (hc : c ≤ 900) (M : Mem G X w [tT S tb row c] [] w) : Rets Try.prog 32 #[(vP tb)] w fun r w' => ∃ (v' : Value) (cs' : List PlC) (N' : Nat → Prop) (ps' : List TPl), r = v' ∧ Mem G X w [tT S tb row c, oP v' cs', rowsC 9 N' 0 cs' ps', propC (PlcP row ps')] [] w' := by
 refine (tab_reads (ι := Value × List PlC × (Nat → Prop) × List TPl) (fun q => q.1) (fun q => [oP q.1 q.2.1, rowsC 9 q.2.2.1 0 q.2.1 q.2.2.2, propC (PlcP row q.2.2.2)]) M fun i ⟨K, d, H, hK, hr⟩ G' X' M' => ?_).mono fun v w' ⟨⟨v', cs', N', ps'⟩, e, m⟩ => ⟨v', cs', N', ps', e, m⟩
 have hd := tab_deep H
 have hA := H.small' (by omega)
 have hu := usedN_le i.l
 have hl := hA.1
 refine (tr_Places tb i.ab i.rt i.fu i.ln i.l i.S hA d (tab_pl H) (by omega) (by rw [(tab_plc H).2]; omega) M').mono fun v w' ⟨v', cs', N', e, m⟩ => ⟨(v', cs', N', plcL i.fu d i.l i.rt), e, ?_⟩
 exact (m.addProp (tab_plc H).1).sel [1, 2, 3, 0] rfl (by decide)
theorem T_check {G X : Nat → Prop} {w : World} (tb : Nat) (S : Nat → Prop) (row : List THit) (c : Nat)  (hc : c ≤ 900) (M : Mem G X w [tT S tb row c] [] w) : Rets Try.prog 33 #[(vP tb)] w fun r w' => r = (vI 0) ∧ Mem G X w [tT S tb row c] [] w' := by
 refine (tab_reads (ι := Unit) (fun _ => vI 0) (fun _ => []) M fun i ⟨K, d, H, hK, hr⟩ G' X' M' => ?_).mono fun v w' ⟨_, e, m⟩ => ⟨e, m⟩
 have hd := tab_deep H
 have hA := H.small' (by omega)
 have hu := usedN_le i.l
 have hl := hA.1
 obtain ⟨D, hP⟩ := plc_ok (tab_plc H).1
 have hD := plc_deep hP
 exact (tr_check tb i.ab i.rt i.fu i.ln i.l i.S hA d (tab_look H) (tab_pl H) (by omega) (by rw [(tab_plc H).2]; omega) row D hP (by omega) (by rw [tab_all H]; exact H.up) (by rw [tab_all H, H.len]) (by rw [H.len]; omega) (tab_plc H).2.symm M').mono fun v w' ⟨e, m⟩ => ⟨(), e, m⟩
theorem tr_least0 {G : Nat → Prop} {w : World} (f : Value)   (M : Mem G (fun _ => False) w [] [] w) : Rets Try.prog 79 #[vN, f] w fun r w' => r = (Value.tuple #[(Value.agg #[(vS sZ), (vI 0)]), (vB false)]) ∧ Mem G (fun _ => False) w [] [] w' := by
 refine Rets.enter 69 _ Try.func79 rfl Try.ntmps79 Try.results79 (by simp) ?_
 refine wR ?_
 refine WL.alloc (c := #[(vS sZ), (vI 0)]) M rfl Try.el41.zero rfl (fun b1 w2 hb1 M => ?_)
 refine wA (vB false) (WL.nil (W.seq' (wR (wM vN (wP (vB true) ?_)))))
 refine wM (vB true) ?_
 refine WL.pass rfl ?_
 refine WL.pass rfl ?_
 refine WL.pass rfl ?_
 refine WL.pass rfl ?_
 refine WL.pass rfl ?_
 refine wS (vB true) rfl (Step.pick (t := true) rfl rfl) (WL.nil ?_)
 refine W.cond (t := true) rfl (fun _ => ?_) (fun h => by cases h)
 refine wR (wP (Value.agg #[(vS sZ), (vI 0)]) ?_)
 refine WL.store (v := (Value.agg #[(vS sZ), (vI 0)])) (cs := [(vS sZ), (vI 0)]) (c' := #[(vS sZ), (vI 0)]) M 0 rfl rfl Try.el41.sized rfl rfl rfl rfl (Nat.le_of_ble_eq_true rfl) (cel_cons rfl (cel_cons rfl cel_nil)) rfl rfl (fun w3 M => ?_)
 refine wA (vB false) (WL.nil ?_)
 refine W.ret ?_
 refine ⟨.inl rfl, (Value.tuple #[(Value.agg #[(vS sZ), (vI 0)]), (vB false)]), ?_, ?_⟩
 · exact ⟨rfl, (Res.r2 (RV.cellN Try.ag41 rfl (M.blk 0 rfl) rfl) (show RV _ _ _ (.tmp 5) (vB false) from by exact rfl))⟩
 refine ⟨?_, M.close [] rfl (by decide) trivial⟩
 rfl
theorem tr_greatest0 {G : Nat → Prop} {w : World} (f : Value)   (M : Mem G (fun _ => False) w [] [] w) : Rets Try.prog 97 #[vN, f] w fun r w' => r = (Value.tuple #[(Value.agg #[(vS sZ), (vI 0)]), (vB false)]) ∧ Mem G (fun _ => False) w [] [] w' := by
 refine Rets.enter 69 _ Try.func97 rfl Try.ntmps97 Try.results97 (by simp) ?_
 refine wR ?_
 refine WL.alloc (c := #[(vS sZ), (vI 0)]) M rfl Try.el41.zero rfl (fun b1 w2 hb1 M => ?_)
 refine wA (vB false) (WL.nil (W.seq' (wR (wM vN (wP (vB true) ?_)))))
 refine wM (vB true) ?_
 refine WL.pass rfl ?_
 refine WL.pass rfl ?_
 refine WL.pass rfl ?_
 refine WL.pass rfl ?_
 refine WL.pass rfl ?_
 refine wS (vB true) rfl (Step.pick (t := true) rfl rfl) (WL.nil ?_)
 refine W.cond (t := true) rfl (fun _ => ?_) (fun h => by cases h)
 refine wR (wP (Value.agg #[(vS sZ), (vI 0)]) ?_)
 refine WL.store (v := (Value.agg #[(vS sZ), (vI 0)])) (cs := [(vS sZ), (vI 0)]) (c' := #[(vS sZ), (vI 0)]) M 0 rfl rfl Try.el41.sized rfl rfl rfl rfl (Nat.le_of_ble_eq_true rfl) (cel_cons rfl (cel_cons rfl cel_nil)) rfl rfl (fun w3 M => ?_)
 refine wA (vB false) (WL.nil ?_)
 refine W.ret ?_
 refine ⟨.inl rfl, (Value.tuple #[(Value.agg #[(vS sZ), (vI 0)]), (vB false)]), ?_, ?_⟩
 · exact ⟨rfl, (Res.r2 (RV.cellN Try.ag41 rfl (M.blk 0 rfl) rfl) (show RV _ _ _ (.tmp 5) (vB false) from by exact rfl))⟩
 refine ⟨?_, M.close [] rfl (by decide) trivial⟩
 rfl
theorem T_from0 {G : Nat → Prop} {w : World} (k : ByteArray)   (M : Mem G (fun _ => False) w [] [] w) : Rets Try.prog 45 #[vN, (vS k)] w fun r w' => r = (Value.tuple #[(Value.agg #[(vS sZ), (vI 0)]), (vB false)]) ∧ Mem G (fun _ => False) w [] [] w' := by
 refine Rets.enter 11 _ Try.func45 rfl Try.ntmps45 Try.results45 (by simp) ?_
 refine wR ?_
 refine WL.box (v := (vS k)) (c := #[(vS k)]) M rfl rfl rfl (fun b1 w2 hb1 M => ?_)
 refine WL.alloc (c := #[(vS sZ), (vI 0)]) M rfl Try.el41.zero rfl (fun b3 w4 hb3 M => ?_)
 refine wA (vB false) (WL.nil (wR (wM vN (wP (Value.func (.func 80) #[] #[(vP b1)]) ?_))))
 refine WL.callX rfl (tr_least0 (Value.func (.func 80) #[] #[(vP b1)]) (M.enterW0 trivial)) (CallsF.func Try.en79 rfl) ?_
 rintro _ w5 ⟨rfl, m⟩
 replace M := M.leaveW0 m
 clear m
 refine wP (Value.agg #[(vS sZ), (vI 0)]) (wP (vB false) ?_)
 refine WL.store (v := (Value.agg #[(vS sZ), (vI 0)])) (cs := [(vS sZ), (vI 0)]) (c' := #[(vS sZ), (vI 0)]) M 0 rfl rfl Try.el41.sized rfl rfl rfl rfl (Nat.le_of_ble_eq_true rfl) (cel_cons rfl (cel_cons rfl cel_nil)) rfl rfl (fun w6 M => ?_)
 refine wA (vB false) (WL.nil ?_)
 refine W.ret ?_
 refine ⟨.inl rfl, (Value.tuple #[(Value.agg #[(vS sZ), (vI 0)]), (vB false)]), ?_, ?_⟩
 · exact ⟨rfl, (Res.r2 (RV.cellN Try.ag41 rfl (M.blk 0 rfl) rfl) (show RV _ _ _ (.tmp 5) (vB false) from by exact rfl))⟩
 refine ⟨?_, M.close [] rfl (by decide) trivial⟩
 rfl
theorem T_after0 {G : Nat → Prop} {w : World} (k : ByteArray)   (M : Mem G (fun _ => False) w [] [] w) : Rets Try.prog 72 #[vN, (vS k)] w fun r w' => r = (Value.tuple #[(Value.agg #[(vS sZ), (vI 0)]), (vB false)]) ∧ Mem G (fun _ => False) w [] [] w' := by
 refine Rets.enter 11 _ Try.func72 rfl Try.ntmps72 Try.results72 (by simp) ?_
 refine wR ?_
 refine WL.box (v := (vS k)) (c := #[(vS k)]) M rfl rfl rfl (fun b1 w2 hb1 M => ?_)
 refine WL.alloc (c := #[(vS sZ), (vI 0)]) M rfl Try.el41.zero rfl (fun b3 w4 hb3 M => ?_)
 refine wA (vB false) (WL.nil (wR (wM vN (wP (Value.func (.func 102) #[] #[(vP b1)]) ?_))))
 refine WL.callX rfl (tr_least0 (Value.func (.func 102) #[] #[(vP b1)]) (M.enterW0 trivial)) (CallsF.func Try.en79 rfl) ?_
 rintro _ w5 ⟨rfl, m⟩
 replace M := M.leaveW0 m
 clear m
 refine wP (Value.agg #[(vS sZ), (vI 0)]) (wP (vB false) ?_)
 refine WL.store (v := (Value.agg #[(vS sZ), (vI 0)])) (cs := [(vS sZ), (vI 0)]) (c' := #[(vS sZ), (vI 0)]) M 0 rfl rfl Try.el41.sized rfl rfl rfl rfl (Nat.le_of_ble_eq_true rfl) (cel_cons rfl (cel_cons rfl cel_nil)) rfl rfl (fun w6 M => ?_)
 refine wA (vB false) (WL.nil ?_)
 refine W.ret ?_
 refine ⟨.inl rfl, (Value.tuple #[(Value.agg #[(vS sZ), (vI 0)]), (vB false)]), ?_, ?_⟩
 · exact ⟨rfl, (Res.r2 (RV.cellN Try.ag41 rfl (M.blk 0 rfl) rfl) (show RV _ _ _ (.tmp 5) (vB false) from by exact rfl))⟩
 refine ⟨?_, M.close [] rfl (by decide) trivial⟩
 rfl
theorem T_upto0 {G : Nat → Prop} {w : World} (k : ByteArray)   (M : Mem G (fun _ => False) w [] [] w) : Rets Try.prog 74 #[vN, (vS k)] w fun r w' => r = (Value.tuple #[(Value.agg #[(vS sZ), (vI 0)]), (vB false)]) ∧ Mem G (fun _ => False) w [] [] w' := by
 refine Rets.enter 11 _ Try.func74 rfl Try.ntmps74 Try.results74 (by simp) ?_
 refine wR ?_
 refine WL.box (v := (vS k)) (c := #[(vS k)]) M rfl rfl rfl (fun b1 w2 hb1 M => ?_)
 refine WL.alloc (c := #[(vS sZ), (vI 0)]) M rfl Try.el41.zero rfl (fun b3 w4 hb3 M => ?_)
 refine wA (vB false) (WL.nil (wR (wM vN (wP (Value.func (.func 103) #[] #[(vP b1)]) ?_))))
 refine WL.callX rfl (tr_greatest0 (Value.func (.func 103) #[] #[(vP b1)]) (M.enterW0 trivial)) (CallsF.func Try.en97 rfl) ?_
 rintro _ w5 ⟨rfl, m⟩
 replace M := M.leaveW0 m
 clear m
 refine wP (Value.agg #[(vS sZ), (vI 0)]) (wP (vB false) ?_)
 refine WL.store (v := (Value.agg #[(vS sZ), (vI 0)])) (cs := [(vS sZ), (vI 0)]) (c' := #[(vS sZ), (vI 0)]) M 0 rfl rfl Try.el41.sized rfl rfl rfl rfl (Nat.le_of_ble_eq_true rfl) (cel_cons rfl (cel_cons rfl cel_nil)) rfl rfl (fun w6 M => ?_)
 refine wA (vB false) (WL.nil ?_)
 refine W.ret ?_
 refine ⟨.inl rfl, (Value.tuple #[(Value.agg #[(vS sZ), (vI 0)]), (vB false)]), ?_, ?_⟩
 · exact ⟨rfl, (Res.r2 (RV.cellN Try.ag41 rfl (M.blk 0 rfl) rfl) (show RV _ _ _ (.tmp 5) (vB false) from by exact rfl))⟩
 refine ⟨?_, M.close [] rfl (by decide) trivial⟩
 rfl
theorem T_before0 {G : Nat → Prop} {w : World} (k : ByteArray)   (M : Mem G (fun _ => False) w [] [] w) : Rets Try.prog 60 #[vN, (vS k)] w fun r w' => r = (Value.tuple #[(Value.agg #[(vS sZ), (vI 0)]), (vB false)]) ∧ Mem G (fun _ => False) w [] [] w' := by
 refine Rets.enter 11 _ Try.func60 rfl Try.ntmps60 Try.results60 (by simp) ?_
 refine wR ?_
 refine WL.box (v := (vS k)) (c := #[(vS k)]) M rfl rfl rfl (fun b1 w2 hb1 M => ?_)
 refine WL.alloc (c := #[(vS sZ), (vI 0)]) M rfl Try.el41.zero rfl (fun b3 w4 hb3 M => ?_)
 refine wA (vB false) (WL.nil (wR (wM vN (wP (Value.func (.func 98) #[] #[(vP b1)]) ?_))))
 refine WL.callX rfl (tr_greatest0 (Value.func (.func 98) #[] #[(vP b1)]) (M.enterW0 trivial)) (CallsF.func Try.en97 rfl) ?_
 rintro _ w5 ⟨rfl, m⟩
 replace M := M.leaveW0 m
 clear m
 refine wP (Value.agg #[(vS sZ), (vI 0)]) (wP (vB false) ?_)
 refine WL.store (v := (Value.agg #[(vS sZ), (vI 0)])) (cs := [(vS sZ), (vI 0)]) (c' := #[(vS sZ), (vI 0)]) M 0 rfl rfl Try.el41.sized rfl rfl rfl rfl (Nat.le_of_ble_eq_true rfl) (cel_cons rfl (cel_cons rfl cel_nil)) rfl rfl (fun w6 M => ?_)
 refine wA (vB false) (WL.nil ?_)
 refine W.ret ?_
 refine ⟨.inl rfl, (Value.tuple #[(Value.agg #[(vS sZ), (vI 0)]), (vB false)]), ?_, ?_⟩
 · exact ⟨rfl, (Res.r2 (RV.cellN Try.ag41 rfl (M.blk 0 rfl) rfl) (show RV _ _ _ (.tmp 5) (vB false) from by exact rfl))⟩
 refine ⟨?_, M.close [] rfl (by decide) trivial⟩
 rfl
theorem T_first0 {G : Nat → Prop} {w : World}    (M : Mem G (fun _ => False) w [] [] w) : Rets Try.prog 77 #[vN] w fun r w' => r = (Value.tuple #[(Value.agg #[(vS sZ), (vI 0)]), (vB false)]) ∧ Mem G (fun _ => False) w [] [] w' := by
 refine Rets.enter 8 _ Try.func77 rfl Try.ntmps77 Try.results77 (by simp) ?_
 refine wR ?_
 refine WL.alloc (c := #[(vS sZ), (vI 0)]) M rfl Try.el41.zero rfl (fun b1 w2 hb1 M => ?_)
 refine wA (vB false) (WL.nil (wR (wM vN ?_)))
 refine WL.callX rfl (tr_least0 (Value.func (.func 104) #[] #[]) (M.enterW0 trivial)) (CallsF.func Try.en79 rfl) ?_
 rintro _ w3 ⟨rfl, m⟩
 replace M := M.leaveW0 m
 clear m
 refine wP (Value.agg #[(vS sZ), (vI 0)]) (wP (vB false) ?_)
 refine WL.store (v := (Value.agg #[(vS sZ), (vI 0)])) (cs := [(vS sZ), (vI 0)]) (c' := #[(vS sZ), (vI 0)]) M 0 rfl rfl Try.el41.sized rfl rfl rfl rfl (Nat.le_of_ble_eq_true rfl) (cel_cons rfl (cel_cons rfl cel_nil)) rfl rfl (fun w4 M => ?_)
 refine wA (vB false) (WL.nil ?_)
 refine W.ret ?_
 refine ⟨.inl rfl, (Value.tuple #[(Value.agg #[(vS sZ), (vI 0)]), (vB false)]), ?_, ?_⟩
 · exact ⟨rfl, (Res.r2 (RV.cellN Try.ag41 rfl (M.blk 0 rfl) rfl) (show RV _ _ _ (.tmp 3) (vB false) from by exact rfl))⟩
 refine ⟨?_, M.close [] rfl (by decide) trivial⟩
 rfl
theorem T_last0 {G : Nat → Prop} {w : World}    (M : Mem G (fun _ => False) w [] [] w) : Rets Try.prog 78 #[vN] w fun r w' => r = (Value.tuple #[(Value.agg #[(vS sZ), (vI 0)]), (vB false)]) ∧ Mem G (fun _ => False) w [] [] w' := by
 refine Rets.enter 8 _ Try.func78 rfl Try.ntmps78 Try.results78 (by simp) ?_
 refine wR ?_
 refine WL.alloc (c := #[(vS sZ), (vI 0)]) M rfl Try.el41.zero rfl (fun b1 w2 hb1 M => ?_)
 refine wA (vB false) (WL.nil (wR (wM vN ?_)))
 refine WL.callX rfl (tr_greatest0 (Value.func (.func 105) #[] #[]) (M.enterW0 trivial)) (CallsF.func Try.en97 rfl) ?_
 rintro _ w3 ⟨rfl, m⟩
 replace M := M.leaveW0 m
 clear m
 refine wP (Value.agg #[(vS sZ), (vI 0)]) (wP (vB false) ?_)
 refine WL.store (v := (Value.agg #[(vS sZ), (vI 0)])) (cs := [(vS sZ), (vI 0)]) (c' := #[(vS sZ), (vI 0)]) M 0 rfl rfl Try.el41.sized rfl rfl rfl rfl (Nat.le_of_ble_eq_true rfl) (cel_cons rfl (cel_cons rfl cel_nil)) rfl rfl (fun w4 M => ?_)
 refine wA (vB false) (WL.nil ?_)
 refine W.ret ?_
 refine ⟨.inl rfl, (Value.tuple #[(Value.agg #[(vS sZ), (vI 0)]), (vB false)]), ?_, ?_⟩
 · exact ⟨rfl, (Res.r2 (RV.cellN Try.ag41 rfl (M.blk 0 rfl) rfl) (show RV _ _ _ (.tmp 3) (vB false) from by exact rfl))⟩
 refine ⟨?_, M.close [] rfl (by decide) trivial⟩
 rfl
theorem T_get0 {G : Nat → Prop} {w : World} (k : ByteArray)   (M : Mem G (fun _ => False) w [] [] w) : Rets Try.prog 17 #[vN, (vS k)] w fun r w' => r = (Value.tuple #[(vI 0), (vB false)]) ∧ Mem G (fun _ => False) w [] [] w' := by
 refine Rets.enter 24 _ Try.func17 rfl Try.ntmps17 Try.results17 (by simp) ?_
 refine wR (wA (vI 0) (wA (vB false) (WL.nil (wR (wM vN ?_)))))
 refine wM (vS k) ?_
 refine WL.callX rfl (T_from0 k (M.enterW0 trivial)) (CallsF.func Try.en45 rfl) ?_
 rintro _ w1 ⟨rfl, m⟩
 replace M := M.leaveW0 m
 clear m
 refine wM (Value.tuple #[(Value.agg #[(vS sZ), (vI 0)]), (vB false)]) (wP (Value.agg #[(vS sZ), (vI 0)]) (wP (vB false) ?_))
 refine WL.alloc (c := #[(vS sZ), (vI 0)]) M rfl Try.el41.zero rfl (fun b2 w3 hb2 M => ?_)
 refine WL.store (v := (Value.agg #[(vS sZ), (vI 0)])) (cs := [(vS sZ), (vI 0)]) (c' := #[(vS sZ), (vI 0)]) M 0 rfl rfl Try.el41.sized rfl rfl rfl rfl (Nat.le_of_ble_eq_true rfl) (cel_cons rfl (cel_cons rfl cel_nil)) rfl rfl (fun w4 M => ?_)
 refine wA (vB false) (WL.nil (W.seq' (wR (wM (vB false) (wP (vB true) ?_)))))
 refine wM (vB true) ?_
 refine WL.pass rfl ?_
 refine WL.pass rfl ?_
 refine WL.pass rfl ?_
 refine WL.pass rfl ?_
 refine wS (vB true) rfl (Step.pick (t := true) rfl rfl) (WL.nil ?_)
 refine W.cond (t := true) rfl (fun _ => ?_) (fun h => by cases h)
 refine wR (wA (vI 0) (wA (vB false) (WL.nil ?_)))
 refine W.ret ?_
 refine ⟨.inl rfl, (Value.tuple #[(vI 0), (vB false)]), ?_, ?_⟩
 · exact ⟨rfl, (Res.r2 (show RV _ _ _ (.tmp 4) (vI 0) from by exact rfl) (show RV _ _ _ (.tmp 5) (vB false) from by exact rfl))⟩
 refine ⟨?_, M.close [] rfl (by decide) trivial⟩
 rfl
theorem T_delete0 {G : Nat → Prop} {w : World} (k : ByteArray)   (M : Mem G (fun _ => False) w [] [] w) : Rets Try.prog 19 #[vN, (vS k)] w fun r w' => r = (Value.tuple #[(vI 0), (vB false)]) ∧ Mem G (fun _ => False) w [] [] w' := by
 refine Rets.enter 71 _ Try.func19 rfl Try.ntmps19 Try.results19 (by simp) ?_
 refine wR (wA (vI 0) (wA (vB false) (WL.nil (wR (wM vN ?_)))))
 refine wM (vS k) ?_
 refine WL.callX rfl (T_get0 k (M.enterW0 trivial)) (CallsF.func Try.en17 rfl) ?_
 rintro _ w1 ⟨rfl, m⟩
 replace M := M.leaveW0 m
 clear m
 refine wM (Value.tuple #[(vI 0), (vB false)]) (wP (vI 0) (wP (vB false) (wA (vI 0) (wA (vB false) (WL.nil ?_)))))
 refine W.seq' (wR (wM (vB false) (wP (vB true) (WL.nil ?_))))
 refine W.cond (t := true) rfl (fun _ => ?_) (fun h => by cases h)
 refine wR (wA (vI 0) (wA (vB false) (WL.nil ?_)))
 refine W.ret ?_
 refine ⟨.inl rfl, (Value.tuple #[(vI 0), (vB false)]), ?_, ?_⟩
 · exact ⟨rfl, (Res.r2 (show RV _ _ _ (.tmp 4) (vI 0) from by exact rfl) (show RV _ _ _ (.tmp 5) (vB false) from by exact rfl))⟩
 refine ⟨?_, M.close [] rfl (by decide) trivial⟩
 rfl
end Go.Proofs
set_option maxRecDepth 100000
namespace Go.Proofs
open Go Tp
theorem Try.un27 : Und Try.prog 27 (.slice 108) := by unfold Und; kernel_rfl
theorem Try.ag108 : Aggr Try.prog 108 2 := ⟨fun _ => by kernel_rfl, fun _ => by kernel_rfl⟩
theorem Try.el108 : Elem Try.prog 108 (Value.agg #[(vS sZ), (vI 0)]) 2 24 := Elem.mk (by kernel_rfl)
theorem r_from {G : Nat → Prop} {w : World} (v : Value) (l : List THit) (k : ByteArray)   (M : Mem G (fun _ => False) w [] [fR v l] w) : Rets Try.prog 71 #[v, (vS k)] w fun r w' => r = (Value.tuple #[(Value.agg #[(vS (((fromL l k).1).key)), (vI (((fromL l k).1).val))]), (vB ((fromL l k).2))]) ∧ Mem G (fun _ => False) w [] [] w' := by
 refine Rets.enter 25 _ Try.func71 rfl Try.ntmps71 Try.results71 (by simp) ?_
 have hle1 := SlAt.le' (M.rep 0 rfl)
 have sl2 : IsSl v := SlAt.isSl (Mem.rep M 0 rfl)
 refine wR ?_
 refine WL.alloc (c := #[(vS sZ), (vI 0)]) M rfl Try.el108.zero rfl (fun b3 w4 hb3 M => ?_)
 refine wA (vB false) (WL.nil (W.seq' (wR (wA (vI 0) (WL.nil ?_)))))
 refine W.block ?_
 refine W.loop (fun kk ρ w' => ∃ (i_ : Nat), ((i_ ≤ l.length) ∧ (∀ j u, j < i_ → l[j]? = some u → (fun u : THit => !(sLt u.key k)) u = false) ∧ kk = l.length - i_) ∧ ρ.has [(0, v), (1, (vS k)), (4, (vP b3)), (6, (vI ↑i_))] ∧ Mem G (fun _ => False) w [bk b3 #[(vS sZ), (vI 0)] 108] [fR v l]  w') _ ⟨0, ⟨(Nat.zero_le _), (fun _ _ h => absurd h (Nat.not_lt_zero _)), rfl⟩, ⟨rfl, rfl, rfl, rfl, rfl, rfl⟩, M⟩ ?_
 rintro _ ρ6 w5 ⟨i_, ⟨hi7, hi8, rfl⟩, hρ, M⟩
 obtain ⟨ρ6, rfl⟩ := hρ.know
 clear hρ
 refine W.seq' (wR (wM (vI ↑i_) (wM v (wS (vI ↑l.length) rfl (Step.lenSl Try.un27 rfl (M.rep 0 rfl)) (wP (vB (decide ((↑i_ : Int) < (↑l.length : Int)))) ?_)))))
 refine WL.nil ?_
 refine W.cond (t := decide ((↑i_ : Int) < (↑l.length : Int))) rfl (fun h9 => ?_) (fun h9 => ?_)
 ·
  have h9p := of_decide_eq_true h9
  refine W.skip (W.seq' (W.block (wR (wM v (wM (vI ↑i_) ?_)))))
  obtain ⟨cap11, hb10⟩ := SlAt.base (M.rep 0 rfl) (by omega)
  obtain ⟨x12, hx12⟩ := elem_of_lt (xs := l) (i := i_) (by omega)
  refine wS (vQ v i_ 2) rfl (sX i_ Try.un27 Try.el108 rfl rfl hb10) (wP (vQ v i_ 2) (wS (vS x12.key) rfl (Step.loadE (k := 0) Try.sc9 (flat_ec (M.rep 0 rfl) hx12 hitE_len) (by decide) rfl rfl) (wM (vS k) (wP (vB (!(sLt x12.key k))) (WL.nil ?_)))))
  refine W.cond (t := !(sLt x12.key k)) rfl (fun h13 => ?_) (fun h13 => ?_)
  ·
   refine wR (wM v (wM (vI ↑i_) (wS (vQ v i_ 2) rfl (sX i_ Try.un27 Try.el108 rfl rfl hb10) (wS (Value.agg #[(vS x12.key), (vI x12.val)]) rfl (Step.loadEN (k := 0) (cs' := [(vS x12.key), (vI x12.val)]) Try.ag108 (flat_ec (M.rep 0 rfl) hx12 hitE_len) (by decide) rfl rfl rfl) ?_))))
   refine WL.store (v := (Value.agg #[(vS x12.key), (vI x12.val)])) (cs := [(vS x12.key), (vI x12.val)]) (c' := #[(vS x12.key), (vI x12.val)]) M 0 rfl rfl Try.el108.sized rfl rfl rfl rfl (Nat.le_of_ble_eq_true rfl) (cel_cons rfl (cel_cons rfl cel_nil)) rfl rfl (fun w14 M => ?_)
   refine wA (vB true) (WL.nil ?_)
   refine W.ret ?_
   refine ⟨.inl rfl, (Value.tuple #[(Value.agg #[(vS x12.key), (vI x12.val)]), (vB true)]), ?_, ?_⟩
   · exact ⟨rfl, (Res.r2 (RV.cellN Try.ag108 rfl (M.blk 0 rfl) rfl) (show RV _ _ _ (.tmp 5) (vB true) from by exact rfl))⟩
   refine ⟨?_, M.close [] rfl (by decide) trivial⟩
   rw [show (fromL l k) = (x12, true) from firstL_at hx12 (by have h_ := h13; simpa [sGt, sLe] using h_) hi8]
  ·
   refine W.skip (W.region rfl (wM (vI ↑i_) (wS (vI (↑i_ + 1)) rfl (Step.add rfl rfl (wrap_i64 (by omega))) (wA (vI (↑i_ + 1)) (WL.nil ?_)))))
   exact ⟨_, (by omega), i_ + 1, ⟨(by omega), (below_stepG hi8 hx12 (by have h_ := h13; simpa [sGt, sLe] using h_)), rfl⟩, ⟨rfl, rfl, rfl, rfl, rfl, rfl⟩, M⟩
 ·
  have h9p := of_decide_eq_false h9
  refine W.exit ?_
  refine thn_exit ?_
  refine thn_exit ?_
  refine inBlk_hit ?_
  refine wR (wP (Value.agg #[(vS sZ), (vI 0)]) ?_)
  refine WL.store (v := (Value.agg #[(vS sZ), (vI 0)])) (cs := [(vS sZ), (vI 0)]) (c' := #[(vS sZ), (vI 0)]) M 0 rfl rfl Try.el108.sized rfl rfl rfl rfl (Nat.le_of_ble_eq_true rfl) (cel_cons rfl (cel_cons rfl cel_nil)) rfl rfl (fun w15 M => ?_)
  refine wA (vB false) (WL.nil ?_)
  refine W.ret ?_
  refine ⟨.inl rfl, (Value.tuple #[(Value.agg #[(vS sZ), (vI 0)]), (vB false)]), ?_, ?_⟩
  · exact ⟨rfl, (Res.r2 (RV.cellN Try.ag108 rfl (M.blk 0 rfl) rfl) (show RV _ _ _ (.tmp 5) (vB false) from by exact rfl))⟩
  refine ⟨?_, M.close [] rfl (by decide) trivial⟩
  rw [show (fromL l k) = noHit from firstL_end (by omega) hi8]; try rfl
theorem r_after {G : Nat → Prop} {w : World} (v : Value) (l : List THit) (k : ByteArray)   (M : Mem G (fun _ => False) w [] [fR v l] w) : Rets Try.prog 73 #[v, (vS k)] w fun r w' => r = (Value.tuple #[(Value.agg #[(vS (((afterL l k).1).key)), (vI (((afterL l k).1).val))]), (vB ((afterL l k).2))]) ∧ Mem G (fun _ => False) w [] [] w' := by
 refine Rets.enter 25 _ Try.func73 rfl Try.ntmps73 Try.results73 (by simp) ?_
 have hle1 := SlAt.le' (M.rep 0 rfl)
 have sl2 : IsSl v := SlAt.isSl (Mem.rep M 0 rfl)
 refine wR ?_
 refine WL.alloc (c := #[(vS sZ), (vI 0)]) M rfl Try.el108.zero rfl (fun b3 w4 hb3 M => ?_)
 refine wA (vB false) (WL.nil (W.seq' (wR (wA (vI 0) (WL.nil ?_)))))
 refine W.block ?_
 refine W.loop (fun kk ρ w' => ∃ (i_ : Nat), ((i_ ≤ l.length) ∧ (∀ j u, j < i_ → l[j]? = some u → (fun u : THit => sLt k u.key) u = false) ∧ kk = l.length - i_) ∧ ρ.has [(0, v), (1, (vS k)), (4, (vP b3)), (6, (vI ↑i_))] ∧ Mem G (fun _ => False) w [bk b3 #[(vS sZ), (vI 0)] 108] [fR v l]  w') _ ⟨0, ⟨(Nat.zero_le _), (fun _ _ h => absurd h (Nat.not_lt_zero _)), rfl⟩, ⟨rfl, rfl, rfl, rfl, rfl, rfl⟩, M⟩ ?_
 rintro _ ρ6 w5 ⟨i_, ⟨hi7, hi8, rfl⟩, hρ, M⟩
 obtain ⟨ρ6, rfl⟩ := hρ.know
 clear hρ
 refine W.seq' (wR (wM (vI ↑i_) (wM v (wS (vI ↑l.length) rfl (Step.lenSl Try.un27 rfl (M.rep 0 rfl)) (wP (vB (decide ((↑i_ : Int) < (↑l.length : Int)))) ?_)))))
 refine WL.nil ?_
 refine W.cond (t := decide ((↑i_ : Int) < (↑l.length : Int))) rfl (fun h9 => ?_) (fun h9 => ?_)
 ·
  have h9p := of_decide_eq_true h9
  refine W.skip (W.seq' (W.block (wR (wM v (wM (vI ↑i_) ?_)))))
  obtain ⟨cap11, hb10⟩ := SlAt.base (M.rep 0 rfl) (by omega)
  obtain ⟨x12, hx12⟩ := elem_of_lt (xs := l) (i := i_) (by omega)
  refine wS (vQ v i_ 2) rfl (sX i_ Try.un27 Try.el108 rfl rfl hb10) (wP (vQ v i_ 2) (wS (vS x12.key) rfl (Step.loadE (k := 0) Try.sc9 (flat_ec (M.rep 0 rfl) hx12 hitE_len) (by decide) rfl rfl) (wM (vS k) (wP (vB (!(sLt x12.key k || x12.key.toList == k.toList))) (WL.nil ?_)))))
  refine W.cond (t := !(sLt x12.key k || x12.key.toList == k.toList)) rfl (fun h13 => ?_) (fun h13 => ?_)
  ·
   refine wR (wM v (wM (vI ↑i_) (wS (vQ v i_ 2) rfl (sX i_ Try.un27 Try.el108 rfl rfl hb10) (wS (Value.agg #[(vS x12.key), (vI x12.val)]) rfl (Step.loadEN (k := 0) (cs' := [(vS x12.key), (vI x12.val)]) Try.ag108 (flat_ec (M.rep 0 rfl) hx12 hitE_len) (by decide) rfl rfl rfl) ?_))))
   refine WL.store (v := (Value.agg #[(vS x12.key), (vI x12.val)])) (cs := [(vS x12.key), (vI x12.val)]) (c' := #[(vS x12.key), (vI x12.val)]) M 0 rfl rfl Try.el108.sized rfl rfl rfl rfl (Nat.le_of_ble_eq_true rfl) (cel_cons rfl (cel_cons rfl cel_nil)) rfl rfl (fun w14 M => ?_)
   refine wA (vB true) (WL.nil ?_)
   refine W.ret ?_
   refine ⟨.inl rfl, (Value.tuple #[(Value.agg #[(vS x12.key), (vI x12.val)]), (vB true)]), ?_, ?_⟩
   · exact ⟨rfl, (Res.r2 (RV.cellN Try.ag108 rfl (M.blk 0 rfl) rfl) (show RV _ _ _ (.tmp 5) (vB true) from by exact rfl))⟩
   refine ⟨?_, M.close [] rfl (by decide) trivial⟩
   rw [show (afterL l k) = (x12, true) from firstL_at hx12 (by have h_ := h13; simpa [sGt, sLe] using h_) hi8]
  ·
   refine W.skip (W.region rfl (wM (vI ↑i_) (wS (vI (↑i_ + 1)) rfl (Step.add rfl rfl (wrap_i64 (by omega))) (wA (vI (↑i_ + 1)) (WL.nil ?_)))))
   exact ⟨_, (by omega), i_ + 1, ⟨(by omega), (below_stepG hi8 hx12 (by have h_ := h13; simpa [sGt, sLe] using h_)), rfl⟩, ⟨rfl, rfl, rfl, rfl, rfl, rfl⟩, M⟩
 ·
  have h9p := of_decide_eq_false h9
  refine W.exit ?_
  refine thn_exit ?_
  refine thn_exit ?_
  refine inBlk_hit ?_
  refine wR (wP (Value.agg #[(vS sZ), (vI 0)]) ?_)
  refine WL.store (v := (Value.agg #[(vS sZ), (vI 0)])) (cs := [(vS sZ), (vI 0)]) (c' := #[(vS sZ), (vI 0)]) M 0 rfl rfl Try.el108.sized rfl rfl rfl rfl (Nat.le_of_ble_eq_true rfl) (cel_cons rfl (cel_cons rfl cel_nil)) rfl rfl (fun w15 M => ?_)
  refine wA (vB false) (WL.nil ?_)
  refine W.ret ?_
  refine ⟨.inl rfl, (Value.tuple #[(Value.agg #[(vS sZ), (vI 0)]), (vB false)]), ?_, ?_⟩
  · exact ⟨rfl, (Res.r2 (RV.cellN Try.ag108 rfl (M.blk 0 rfl) rfl) (show RV _ _ _ (.tmp 5) (vB false) from by exact rfl))⟩
  refine ⟨?_, M.close [] rfl (by decide) trivial⟩
  rw [show (afterL l k) = noHit from firstL_end (by omega) hi8]; try rfl
theorem r_upto {G : Nat → Prop} {w : World} (v : Value) (l : List THit) (k : ByteArray)   (M : Mem G (fun _ => False) w [] [fR v l] w) : Rets Try.prog 75 #[v, (vS k)] w fun r w' => r = (Value.tuple #[(Value.agg #[(vS (((uptoL l k).1).key)), (vI (((uptoL l k).1).val))]), (vB ((uptoL l k).2))]) ∧ Mem G (fun _ => False) w [] [] w' := by
 refine Rets.enter 26 _ Try.func75 rfl Try.ntmps75 Try.results75 (by simp) ?_
 have hle1 := SlAt.le' (M.rep 0 rfl)
 have sl2 : IsSl v := SlAt.isSl (Mem.rep M 0 rfl)
 refine wR ?_
 refine WL.alloc (c := #[(vS sZ), (vI 0)]) M rfl Try.el108.zero rfl (fun b3 w4 hb3 M => ?_)
 refine wA (vB false) (WL.nil (W.seq' (wR (wM v (wS (vI ↑l.length) rfl (Step.lenSl Try.un27 rfl (M.rep 0 rfl)) ?_)))))
 refine wS (vI ((↑l.length : Int) - 1)) rfl (Step.sub rfl rfl (wrap_i64 (by omega))) (wA (vI ((↑l.length : Int) - 1)) (WL.nil (W.block ?_)))
 refine W.loop (fun kk ρ w' => ∃ (m_ : Nat), ((m_ ≤ l.length) ∧ (∀ j u, m_ ≤ j → l[j]? = some u → (fun u : THit => !(sLt k u.key)) u = false) ∧ kk = m_ + 1) ∧ ρ.has [(0, v), (1, (vS k)), (4, (vP b3)), (6, (vI ((↑m_ : Int) - 1)))] ∧ Mem G (fun _ => False) w [bk b3 #[(vS sZ), (vI 0)] 108] [fR v l]  w') _ ⟨l.length, ⟨(Nat.le_refl _), (fun j u hj hu => absurd (List.getElem?_eq_some_iff.1 hu).1 (by omega)), rfl⟩, ⟨rfl, rfl, rfl, rfl, rfl, rfl⟩, M⟩ ?_
 rintro _ ρ6 w5 ⟨m_, ⟨hi7, hi8, rfl⟩, hρ, M⟩
 obtain ⟨ρ6, rfl⟩ := hρ.know
 clear hρ
 refine W.seq' (wR (wM (vI ((↑m_ : Int) - 1)) (wP (vB (decide (((↑m_ : Int) - 1 : Int) ≥ (0 : Int)))) (WL.nil ?_))))
 refine W.cond (t := decide (((↑m_ : Int) - 1 : Int) ≥ (0 : Int))) rfl (fun h9 => ?_) (fun h9 => ?_)
 ·
  have h9p := of_decide_eq_true h9
  refine W.skip (W.seq' (W.block (wR (wM v (wM (vI ((↑m_ : Int) - 1)) ?_)))))
  obtain ⟨cap11, hb10⟩ := SlAt.base (M.rep 0 rfl) (by omega)
  obtain ⟨x12, hx12⟩ := elem_of_lt (xs := l) (i := m_ - 1) (by omega)
  refine wS (vQ v (m_ - 1) 2) rfl (sX (m_ - 1) Try.un27 Try.el108 rfl rfl hb10) (wP (vQ v (m_ - 1) 2) (wS (vS x12.key) rfl (Step.loadE (k := 0) Try.sc9 (flat_ec (M.rep 0 rfl) hx12 hitE_len) (by decide) rfl rfl) (wM (vS k) (wP (vB (sLt x12.key k || x12.key.toList == k.toList)) (WL.nil ?_)))))
  refine W.cond (t := sLt x12.key k || x12.key.toList == k.toList) rfl (fun h13 => ?_) (fun h13 => ?_)
  ·
   refine wR (wM v (wM (vI ((↑m_ : Int) - 1)) (wS (vQ v (m_ - 1) 2) rfl (sX (m_ - 1) Try.un27 Try.el108 rfl rfl hb10) (wS (Value.agg #[(vS x12.key), (vI x12.val)]) rfl (Step.loadEN (k := 0) (cs' := [(vS x12.key), (vI x12.val)]) Try.ag108 (flat_ec (M.rep 0 rfl) hx12 hitE_len) (by decide) rfl rfl rfl) ?_))))
   refine WL.store (v := (Value.agg #[(vS x12.key), (vI x12.val)])) (cs := [(vS x12.key), (vI x12.val)]) (c' := #[(vS x12.key), (vI x12.val)]) M 0 rfl rfl Try.el108.sized rfl rfl rfl rfl (Nat.le_of_ble_eq_true rfl) (cel_cons rfl (cel_cons rfl cel_nil)) rfl rfl (fun w14 M => ?_)
   refine wA (vB true) (WL.nil ?_)
   refine W.ret ?_
   refine ⟨.inl rfl, (Value.tuple #[(Value.agg #[(vS x12.key), (vI x12.val)]), (vB true)]), ?_, ?_⟩
   · exact ⟨rfl, (Res.r2 (RV.cellN Try.ag108 rfl (M.blk 0 rfl) rfl) (show RV _ _ _ (.tmp 5) (vB true) from by exact rfl))⟩
   refine ⟨?_, M.close [] rfl (by decide) trivial⟩
   rw [show (uptoL l k) = (x12, true) from lastL_at (by omega) hx12 (by have h_ := h13; simpa [sGt, sLe] using h_) hi8]
  ·
   refine W.skip (W.region rfl (wM (vI ((↑m_ : Int) - 1)) (wS (vI ((↑(m_ - 1) : Int) - 1)) rfl (Step.cast (congrArg (Value.int .i64) (by omega)) (Step.sub rfl rfl (wrap_i64 (by omega)))) (wS (vI ((↑(m_ - 1) : Int) - 1)) rfl (Step.cast (congrArg (Value.int .i64) (by omega)) (Step.assign rfl)) (WL.nil ?_)))))
   exact ⟨_, (by omega), m_ - 1, ⟨(by omega), (above_stepG hi8 hx12 (by have h_ := h13; simpa [sGt, sLe] using h_)), rfl⟩, ⟨rfl, rfl, rfl, rfl, rfl, rfl⟩, M⟩
 ·
  have h9p := of_decide_eq_false h9
  refine W.exit ?_
  refine thn_exit ?_
  refine thn_exit ?_
  refine inBlk_hit ?_
  refine wR (wP (Value.agg #[(vS sZ), (vI 0)]) ?_)
  refine WL.store (v := (Value.agg #[(vS sZ), (vI 0)])) (cs := [(vS sZ), (vI 0)]) (c' := #[(vS sZ), (vI 0)]) M 0 rfl rfl Try.el108.sized rfl rfl rfl rfl (Nat.le_of_ble_eq_true rfl) (cel_cons rfl (cel_cons rfl cel_nil)) rfl rfl (fun w15 M => ?_)
  refine wA (vB false) (WL.nil ?_)
  refine W.ret ?_
  refine ⟨.inl rfl, (Value.tuple #[(Value.agg #[(vS sZ), (vI 0)]), (vB false)]), ?_, ?_⟩
  · exact ⟨rfl, (Res.r2 (RV.cellN Try.ag108 rfl (M.blk 0 rfl) rfl) (show RV _ _ _ (.tmp 5) (vB false) from by exact rfl))⟩
  refine ⟨?_, M.close [] rfl (by decide) trivial⟩
  rw [show (uptoL l k) = noHit from lastL_end fun j u _ hu => hi8 j u (by omega) hu]; try rfl
theorem r_before {G : Nat → Prop} {w : World} (v : Value) (l : List THit) (k : ByteArray)   (M : Mem G (fun _ => False) w [] [fR v l] w) : Rets Try.prog 76 #[v, (vS k)] w fun r w' => r = (Value.tuple #[(Value.agg #[(vS (((beforeL l k).1).key)), (vI (((beforeL l k).1).val))]), (vB ((beforeL l k).2))]) ∧ Mem G (fun _ => False) w [] [] w' := by
 refine Rets.enter 26 _ Try.func76 rfl Try.ntmps76 Try.results76 (by simp) ?_
 have hle1 := SlAt.le' (M.rep 0 rfl)
 have sl2 : IsSl v := SlAt.isSl (Mem.rep M 0 rfl)
 refine wR ?_
 refine WL.alloc (c := #[(vS sZ), (vI 0)]) M rfl Try.el108.zero rfl (fun b3 w4 hb3 M => ?_)
 refine wA (vB false) (WL.nil (W.seq' (wR (wM v (wS (vI ↑l.length) rfl (Step.lenSl Try.un27 rfl (M.rep 0 rfl)) ?_)))))
 refine wS (vI ((↑l.length : Int) - 1)) rfl (Step.sub rfl rfl (wrap_i64 (by omega))) (wA (vI ((↑l.length : Int) - 1)) (WL.nil (W.block ?_)))
 refine W.loop (fun kk ρ w' => ∃ (m_ : Nat), ((m_ ≤ l.length) ∧ (∀ j u, m_ ≤ j → l[j]? = some u → (fun u : THit => sLt u.key k) u = false) ∧ kk = m_ + 1) ∧ ρ.has [(0, v), (1, (vS k)), (4, (vP b3)), (6, (vI ((↑m_ : Int) - 1)))] ∧ Mem G (fun _ => False) w [bk b3 #[(vS sZ), (vI 0)] 108] [fR v l]  w') _ ⟨l.length, ⟨(Nat.le_refl _), (fun j u hj hu => absurd (List.getElem?_eq_some_iff.1 hu).1 (by omega)), rfl⟩, ⟨rfl, rfl, rfl, rfl, rfl, rfl⟩, M⟩ ?_
 rintro _ ρ6 w5 ⟨m_, ⟨hi7, hi8, rfl⟩, hρ, M⟩
 obtain ⟨ρ6, rfl⟩ := hρ.know
 clear hρ
 refine W.seq' (wR (wM (vI ((↑m_ : Int) - 1)) (wP (vB (decide (((↑m_ : Int) - 1 : Int) ≥ (0 : Int)))) (WL.nil ?_))))
 refine W.cond (t := decide (((↑m_ : Int) - 1 : Int) ≥ (0 : Int))) rfl (fun h9 => ?_) (fun h9 => ?_)
 ·
  have h9p := of_decide_eq_true h9
  refine W.skip (W.seq' (W.block (wR (wM v (wM (vI ((↑m_ : Int) - 1)) ?_)))))
  obtain ⟨cap11, hb10⟩ := SlAt.base (M.rep 0 rfl) (by omega)
  obtain ⟨x12, hx12⟩ := elem_of_lt (xs := l) (i := m_ - 1) (by omega)
  refine wS (vQ v (m_ - 1) 2) rfl (sX (m_ - 1) Try.un27 Try.el108 rfl rfl hb10) (wP (vQ v (m_ - 1) 2) (wS (vS x12.key) rfl (Step.loadE (k := 0) Try.sc9 (flat_ec (M.rep 0 rfl) hx12 hitE_len) (by decide) rfl rfl) (wM (vS k) (wP (vB (sLt x12.key k)) (WL.nil ?_)))))
  refine W.cond (t := sLt x12.key k) rfl (fun h13 => ?_) (fun h13 => ?_)
  ·
   refine wR (wM v (wM (vI ((↑m_ : Int) - 1)) (wS (vQ v (m_ - 1) 2) rfl (sX (m_ - 1) Try.un27 Try.el108 rfl rfl hb10) (wS (Value.agg #[(vS x12.key), (vI x12.val)]) rfl (Step.loadEN (k := 0) (cs' := [(vS x12.key), (vI x12.val)]) Try.ag108 (flat_ec (M.rep 0 rfl) hx12 hitE_len) (by decide) rfl rfl rfl) ?_))))
   refine WL.store (v := (Value.agg #[(vS x12.key), (vI x12.val)])) (cs := [(vS x12.key), (vI x12.val)]) (c' := #[(vS x12.key), (vI x12.val)]) M 0 rfl rfl Try.el108.sized rfl rfl rfl rfl (Nat.le_of_ble_eq_true rfl) (cel_cons rfl (cel_cons rfl cel_nil)) rfl rfl (fun w14 M => ?_)
   refine wA (vB true) (WL.nil ?_)
   refine W.ret ?_
   refine ⟨.inl rfl, (Value.tuple #[(Value.agg #[(vS x12.key), (vI x12.val)]), (vB true)]), ?_, ?_⟩
   · exact ⟨rfl, (Res.r2 (RV.cellN Try.ag108 rfl (M.blk 0 rfl) rfl) (show RV _ _ _ (.tmp 5) (vB true) from by exact rfl))⟩
   refine ⟨?_, M.close [] rfl (by decide) trivial⟩
   rw [show (beforeL l k) = (x12, true) from lastL_at (by omega) hx12 (by have h_ := h13; simpa [sGt, sLe] using h_) hi8]
  ·
   refine W.skip (W.region rfl (wM (vI ((↑m_ : Int) - 1)) (wS (vI ((↑(m_ - 1) : Int) - 1)) rfl (Step.cast (congrArg (Value.int .i64) (by omega)) (Step.sub rfl rfl (wrap_i64 (by omega)))) (wS (vI ((↑(m_ - 1) : Int) - 1)) rfl (Step.cast (congrArg (Value.int .i64) (by omega)) (Step.assign rfl)) (WL.nil ?_)))))
   exact ⟨_, (by omega), m_ - 1, ⟨(by omega), (above_stepG hi8 hx12 (by have h_ := h13; simpa [sGt, sLe] using h_)), rfl⟩, ⟨rfl, rfl, rfl, rfl, rfl, rfl⟩, M⟩
 ·
  have h9p := of_decide_eq_false h9
  refine W.exit ?_
  refine thn_exit ?_
  refine thn_exit ?_
  refine inBlk_hit ?_
  refine wR (wP (Value.agg #[(vS sZ), (vI 0)]) ?_)
  refine WL.store (v := (Value.agg #[(vS sZ), (vI 0)])) (cs := [(vS sZ), (vI 0)]) (c' := #[(vS sZ), (vI 0)]) M 0 rfl rfl Try.el108.sized rfl rfl rfl rfl (Nat.le_of_ble_eq_true rfl) (cel_cons rfl (cel_cons rfl cel_nil)) rfl rfl (fun w15 M => ?_)
  refine wA (vB false) (WL.nil ?_)
  refine W.ret ?_
  refine ⟨.inl rfl, (Value.tuple #[(Value.agg #[(vS sZ), (vI 0)]), (vB false)]), ?_, ?_⟩
  · exact ⟨rfl, (Res.r2 (RV.cellN Try.ag108 rfl (M.blk 0 rfl) rfl) (show RV _ _ _ (.tmp 5) (vB false) from by exact rfl))⟩
  refine ⟨?_, M.close [] rfl (by decide) trivial⟩
  rw [show (beforeL l k) = noHit from lastL_end fun j u _ hu => hi8 j u (by omega) hu]; try rfl
end Go.Proofs
set_option maxRecDepth 100000
namespace Go.Proofs
open Go Tp
theorem Try.un9 : Und Try.prog 9 (.string) := by unfold Und; kernel_rfl
theorem Try.en69 : Enters Try.prog 69 := fun _ _ => by kernel_rfl
theorem l_hit1 {G : Nat → Prop} {w : World} (a : THit) (ok : Bool)   (M : Mem G (fun _ => False) w [] [] w) : Rets Try.prog 69 #[(Value.agg #[(vS a.key), (vI a.val)]), (vB ok), (Value.agg #[(vS a.key), (vI a.val)]), (vB ok)] w fun r w' => r = (vB true) ∧ Mem G (fun _ => False) w [] [] w' := by
 refine Rets.enter 26 _ Try.func69 rfl Try.ntmps69 Try.results69 (by simp) ?_
 refine wR ?_
 refine WL.box (v := (Value.agg #[(vS a.key), (vI a.val)])) (c := #[(vS a.key), (vI a.val)]) M rfl rfl rfl (fun b1 w2 hb1 M => ?_)
 refine WL.box (v := (Value.agg #[(vS a.key), (vI a.val)])) (c := #[(vS a.key), (vI a.val)]) M rfl rfl rfl (fun b3 w4 hb3 M => ?_)
 refine wA (vB false) (WL.nil (wR (wM (vB ok) (wM (vB ok) (wS (vB true) rfl (Step.cast (congrArg Value.bool (by simp)) (Step.pure (v := .bool ((ok == ok))) (by kernel_rfl))) ?_)))))
 refine wM (vB true) (wP (vP b1) (wS (vS a.key) rfl (Step.load1 Try.sc9 rfl ((M.cell 1 rfl 0).trans rfl)) (wP (vP b3) (wS (vS a.key) rfl (Step.load1 Try.sc9 rfl ((M.cell 0 rfl 0).trans rfl)) (wS (vB true) rfl (Step.cast (congrArg Value.bool (show (a.key.toList == a.key.toList) = true by simp)) sP) ?_)))))
 refine wS (vB true) rfl (Step.pick (t := true) rfl rfl) (wM (vB true) (wP (Value.pointer (some ⟨b1, 1, none⟩)) (wS (vI a.val) rfl (Step.load1 Try.sc3 rfl ((M.cell 1 rfl 1).trans rfl)) (wP (Value.pointer (some ⟨b3, 1, none⟩)) (wS (vI a.val) rfl (Step.load1 Try.sc3 rfl ((M.cell 0 rfl 1).trans rfl)) ?_)))))
 refine wS (vB true) rfl (Step.cast (congrArg Value.bool (show ((a.val : Int) == (a.val : Int)) = true by simp)) sP) (wS (vB true) rfl (Step.pick (t := true) rfl rfl) (wA (vB true) (WL.nil ?_)))
 refine W.ret ?_
 refine ⟨.inl rfl, (vB true), ?_, ?_⟩
 · exact ⟨rfl, (Res.r1 (show RV _ _ _ (.tmp 8) (vB true) from by exact rfl))⟩
 refine ⟨?_, M.close [] rfl (by decide) trivial⟩
 rfl
end Go.Proofs
set_option maxRecDepth 100000
namespace Go.Proofs
open Go Tp
theorem Try.en18 : Enters Try.prog 18 := fun _ _ => by kernel_rfl
theorem Try.en19 : Enters Try.prog 19 := fun _ _ => by kernel_rfl
theorem Try.en60 : Enters Try.prog 60 := fun _ _ => by kernel_rfl
theorem Try.en71 : Enters Try.prog 71 := fun _ _ => by kernel_rfl
theorem Try.en72 : Enters Try.prog 72 := fun _ _ => by kernel_rfl
theorem Try.en73 : Enters Try.prog 73 := fun _ _ => by kernel_rfl
theorem Try.en74 : Enters Try.prog 74 := fun _ _ => by kernel_rfl
theorem Try.en75 : Enters Try.prog 75 := fun _ _ => by kernel_rfl
theorem Try.en76 : Enters Try.prog 76 := fun _ _ => by kernel_rfl
theorem Try.en77 : Enters Try.prog 77 := fun _ _ => by kernel_rfl
theorem Try.en78 : Enters Try.prog 78 := fun _ _ => by kernel_rfl
theorem Try.fl41 : (Try.prog.fieldsOf 41).toList = [⟨ "Key", 9, 0, false, "", "", 0⟩, ⟨ "Val", 3, 1, false, "", "", 16⟩] := by kernel_rfl
theorem Try.eg41 : Try.prog.eqGuardType Try.prog.depth 41 = false := by kernel_rfl
theorem Try.eq41 (d : Nat) (a0 : ByteArray) (a1 : Int) (b0 : ByteArray) (b1 : Int) : ∀ w, (Op.equalIn (d + 2) 41 (Value.agg #[(vS a0), (vI a1)]) (Value.agg #[(vS b0), (vI b1)])).run Try.prog w = .ok ((a0.toList == b0.toList) && (((a1 : Int) == (b1 : Int)) && true)) w :=
  (eq_struct (by kernel_rfl) (by kernel_rfl) (Try.fl41) (eqF_cons (x := (vS a0)) (y := (vS b0)) (by decide) (fun _ => by kernel_rfl) (fun _ => by kernel_rfl) (fun w => run_equalIn_string w _ _ _ _ (by kernel_rfl)) (eqF_cons (x := (vI a1)) (y := (vI b1)) (by decide) (fun _ => by kernel_rfl) (fun _ => by kernel_rfl) (fun w => run_equalIn_int w _ _ _ .i64 _ _ (by kernel_rfl)) eqF_nil)))
theorem l_asks0 {G : Nat → Prop} {w : World} (k : ByteArray)   (M : Mem G (fun _ => False) w [] [] w) : Rets Try.prog 43 #[vN, vZ, (vS k)] w fun r w' => r = (vB true) ∧ Mem G (fun _ => False) w [] [] w' := by
 refine Rets.enter 97 _ Try.func43 rfl Try.ntmps43 Try.results43 (by simp) ?_
 refine wR (wA (vB false) (WL.nil (wR (wM vN (wM (vS k) ?_)))))
 refine WL.callX rfl (T_from0 k (M.enterW0 trivial)) (CallsF.func Try.en45 rfl) ?_
 rintro _ w1 ⟨rfl, m⟩
 replace M := M.leaveW0 m
 clear m
 refine wM (Value.tuple #[(Value.agg #[(vS sZ), (vI 0)]), (vB false)]) (wP (Value.agg #[(vS sZ), (vI 0)]) (wP (vB false) ?_))
 refine WL.alloc (c := #[(vS sZ), (vI 0)]) M rfl Try.el41.zero rfl (fun b2 w3 hb2 M => ?_)
 refine WL.store (v := (Value.agg #[(vS sZ), (vI 0)])) (cs := [(vS sZ), (vI 0)]) (c' := #[(vS sZ), (vI 0)]) M 0 rfl rfl Try.el41.sized rfl rfl rfl rfl (Nat.le_of_ble_eq_true rfl) (cel_cons rfl (cel_cons rfl cel_nil)) rfl rfl (fun w4 M => ?_)
 refine wA (vB false) (WL.nil (wR (wM vZ (wM (vS k) ?_))))
 refine WL.callX rfl (r_from vZ ([] : List THit) k (M.enterW0 ⟨(Sh.pure fun w => SlAt.nil 2 w), trivial⟩)) (CallsF.func Try.en71 rfl) ?_
 rintro _ w5 ⟨rfl, m⟩
 replace M := M.leaveW0 m
 clear m
 change WL _ _ _ _ _ (Env.put _ _ (Value.tuple #[(Value.agg #[(vS sZ), (vI 0)]), (vB false)])) _
 refine wM (Value.tuple #[(Value.agg #[(vS sZ), (vI 0)]), (vB false)]) (wP (Value.agg #[(vS sZ), (vI 0)]) (wP (vB false) ?_))
 refine WL.alloc (c := #[(vS sZ), (vI 0)]) M rfl Try.el108.zero rfl (fun b6 w7 hb6 M => ?_)
 refine WL.store (v := (Value.agg #[(vS sZ), (vI 0)])) (cs := [(vS sZ), (vI 0)]) (c' := #[(vS sZ), (vI 0)]) M 0 rfl rfl Try.el108.sized rfl rfl rfl rfl (Nat.le_of_ble_eq_true rfl) (cel_cons rfl (cel_cons rfl cel_nil)) rfl rfl (fun w8 M => ?_)
 refine wA (vB false) (WL.nil (wR (wM vN (wM (vS k) ?_))))
 refine WL.callX rfl (T_after0 k (M.enterW0 trivial)) (CallsF.func Try.en72 rfl) ?_
 rintro _ w9 ⟨rfl, m⟩
 replace M := M.leaveW0 m
 clear m
 refine wM (Value.tuple #[(Value.agg #[(vS sZ), (vI 0)]), (vB false)]) (wP (Value.agg #[(vS sZ), (vI 0)]) (wP (vB false) ?_))
 refine WL.alloc (c := #[(vS sZ), (vI 0)]) M rfl Try.el41.zero rfl (fun b10 w11 hb10 M => ?_)
 refine WL.store (v := (Value.agg #[(vS sZ), (vI 0)])) (cs := [(vS sZ), (vI 0)]) (c' := #[(vS sZ), (vI 0)]) M 0 rfl rfl Try.el41.sized rfl rfl rfl rfl (Nat.le_of_ble_eq_true rfl) (cel_cons rfl (cel_cons rfl cel_nil)) rfl rfl (fun w12 M => ?_)
 refine wA (vB false) (WL.nil (wR (wM vZ (wM (vS k) ?_))))
 refine WL.callX rfl (r_after vZ ([] : List THit) k (M.enterW0 ⟨(Sh.pure fun w => SlAt.nil 2 w), trivial⟩)) (CallsF.func Try.en73 rfl) ?_
 rintro _ w13 ⟨rfl, m⟩
 replace M := M.leaveW0 m
 clear m
 change WL _ _ _ _ _ (Env.put _ _ (Value.tuple #[(Value.agg #[(vS sZ), (vI 0)]), (vB false)])) _
 refine wM (Value.tuple #[(Value.agg #[(vS sZ), (vI 0)]), (vB false)]) (wP (Value.agg #[(vS sZ), (vI 0)]) (wP (vB false) ?_))
 refine WL.alloc (c := #[(vS sZ), (vI 0)]) M rfl Try.el108.zero rfl (fun b14 w15 hb14 M => ?_)
 refine WL.store (v := (Value.agg #[(vS sZ), (vI 0)])) (cs := [(vS sZ), (vI 0)]) (c' := #[(vS sZ), (vI 0)]) M 0 rfl rfl Try.el108.sized rfl rfl rfl rfl (Nat.le_of_ble_eq_true rfl) (cel_cons rfl (cel_cons rfl cel_nil)) rfl rfl (fun w16 M => ?_)
 refine wA (vB false) (WL.nil (wR (wM vN (wM (vS k) ?_))))
 refine WL.callX rfl (T_upto0 k (M.enterW0 trivial)) (CallsF.func Try.en74 rfl) ?_
 rintro _ w17 ⟨rfl, m⟩
 replace M := M.leaveW0 m
 clear m
 refine wM (Value.tuple #[(Value.agg #[(vS sZ), (vI 0)]), (vB false)]) (wP (Value.agg #[(vS sZ), (vI 0)]) (wP (vB false) ?_))
 refine WL.alloc (c := #[(vS sZ), (vI 0)]) M rfl Try.el41.zero rfl (fun b18 w19 hb18 M => ?_)
 refine WL.store (v := (Value.agg #[(vS sZ), (vI 0)])) (cs := [(vS sZ), (vI 0)]) (c' := #[(vS sZ), (vI 0)]) M 0 rfl rfl Try.el41.sized rfl rfl rfl rfl (Nat.le_of_ble_eq_true rfl) (cel_cons rfl (cel_cons rfl cel_nil)) rfl rfl (fun w20 M => ?_)
 refine wA (vB false) (WL.nil (wR (wM vZ (wM (vS k) ?_))))
 refine WL.callX rfl (r_upto vZ ([] : List THit) k (M.enterW0 ⟨(Sh.pure fun w => SlAt.nil 2 w), trivial⟩)) (CallsF.func Try.en75 rfl) ?_
 rintro _ w21 ⟨rfl, m⟩
 replace M := M.leaveW0 m
 clear m
 change WL _ _ _ _ _ (Env.put _ _ (Value.tuple #[(Value.agg #[(vS sZ), (vI 0)]), (vB false)])) _
 refine wM (Value.tuple #[(Value.agg #[(vS sZ), (vI 0)]), (vB false)]) (wP (Value.agg #[(vS sZ), (vI 0)]) (wP (vB false) ?_))
 refine WL.alloc (c := #[(vS sZ), (vI 0)]) M rfl Try.el108.zero rfl (fun b22 w23 hb22 M => ?_)
 refine WL.store (v := (Value.agg #[(vS sZ), (vI 0)])) (cs := [(vS sZ), (vI 0)]) (c' := #[(vS sZ), (vI 0)]) M 0 rfl rfl Try.el108.sized rfl rfl rfl rfl (Nat.le_of_ble_eq_true rfl) (cel_cons rfl (cel_cons rfl cel_nil)) rfl rfl (fun w24 M => ?_)
 refine wA (vB false) (WL.nil (wR (wM vN (wM (vS k) ?_))))
 refine WL.callX rfl (T_before0 k (M.enterW0 trivial)) (CallsF.func Try.en60 rfl) ?_
 rintro _ w25 ⟨rfl, m⟩
 replace M := M.leaveW0 m
 clear m
 refine wM (Value.tuple #[(Value.agg #[(vS sZ), (vI 0)]), (vB false)]) (wP (Value.agg #[(vS sZ), (vI 0)]) (wP (vB false) ?_))
 refine WL.alloc (c := #[(vS sZ), (vI 0)]) M rfl Try.el41.zero rfl (fun b26 w27 hb26 M => ?_)
 refine WL.store (v := (Value.agg #[(vS sZ), (vI 0)])) (cs := [(vS sZ), (vI 0)]) (c' := #[(vS sZ), (vI 0)]) M 0 rfl rfl Try.el41.sized rfl rfl rfl rfl (Nat.le_of_ble_eq_true rfl) (cel_cons rfl (cel_cons rfl cel_nil)) rfl rfl (fun w28 M => ?_)
 refine wA (vB false) (WL.nil (wR (wM vZ (wM (vS k) ?_))))
 refine WL.callX rfl (r_before vZ ([] : List THit) k (M.enterW0 ⟨(Sh.pure fun w => SlAt.nil 2 w), trivial⟩)) (CallsF.func Try.en76 rfl) ?_
 rintro _ w29 ⟨rfl, m⟩
 replace M := M.leaveW0 m
 clear m
 change WL _ _ _ _ _ (Env.put _ _ (Value.tuple #[(Value.agg #[(vS sZ), (vI 0)]), (vB false)])) _
 refine wM (Value.tuple #[(Value.agg #[(vS sZ), (vI 0)]), (vB false)]) (wP (Value.agg #[(vS sZ), (vI 0)]) (wP (vB false) ?_))
 refine WL.alloc (c := #[(vS sZ), (vI 0)]) M rfl Try.el108.zero rfl (fun b30 w31 hb30 M => ?_)
 refine WL.store (v := (Value.agg #[(vS sZ), (vI 0)])) (cs := [(vS sZ), (vI 0)]) (c' := #[(vS sZ), (vI 0)]) M 0 rfl rfl Try.el108.sized rfl rfl rfl rfl (Nat.le_of_ble_eq_true rfl) (cel_cons rfl (cel_cons rfl cel_nil)) rfl rfl (fun w32 M => ?_)
 refine wA (vB false) (WL.nil (wR (wS (Value.agg #[(vS sZ), (vI 0)]) rfl (Step.loadN Try.ag41 rfl (M.blk 7 rfl) (Nat.le_of_ble_eq_true rfl) rfl) (wM (vB false) (wS (Value.agg #[(vS sZ), (vI 0)]) rfl (Step.loadN Try.ag108 rfl (M.blk 6 rfl) (Nat.le_of_ble_eq_true rfl) rfl) ?_)))))
 refine wM (vB false) ?_
 refine WL.callX rfl (l_hit1 (⟨sZ, 0⟩ : THit) false (M.enterW0 trivial)) (CallsF.func Try.en69 rfl) ?_
 rintro _ w33 ⟨rfl, m⟩
 replace M := M.leaveW0 m
 clear m
 refine wM (vB true) (wS (Value.agg #[(vS sZ), (vI 0)]) rfl (Step.loadN Try.ag41 rfl (M.blk 5 rfl) (Nat.le_of_ble_eq_true rfl) rfl) (wM (vB false) (wS (Value.agg #[(vS sZ), (vI 0)]) rfl (Step.loadN Try.ag108 rfl (M.blk 4 rfl) (Nat.le_of_ble_eq_true rfl) rfl) (wM (vB false) ?_))))
 refine WL.callX rfl (l_hit1 (⟨sZ, 0⟩ : THit) false (M.enterW0 trivial)) (CallsF.func Try.en69 rfl) ?_
 rintro _ w34 ⟨rfl, m⟩
 replace M := M.leaveW0 m
 clear m
 refine wS (vB true) rfl (Step.pick (t := true) rfl rfl) (wM (vB true) (wS (Value.agg #[(vS sZ), (vI 0)]) rfl (Step.loadN Try.ag41 rfl (M.blk 3 rfl) (Nat.le_of_ble_eq_true rfl) rfl) (wM (vB false) (wS (Value.agg #[(vS sZ), (vI 0)]) rfl (Step.loadN Try.ag108 rfl (M.blk 2 rfl) (Nat.le_of_ble_eq_true rfl) rfl) (wM (vB false) ?_)))))
 refine WL.callX rfl (l_hit1 (⟨sZ, 0⟩ : THit) false (M.enterW0 trivial)) (CallsF.func Try.en69 rfl) ?_
 rintro _ w35 ⟨rfl, m⟩
 replace M := M.leaveW0 m
 clear m
 refine wS (vB true) rfl (Step.pick (t := true) rfl rfl) (wM (vB true) (wS (Value.agg #[(vS sZ), (vI 0)]) rfl (Step.loadN Try.ag41 rfl (M.blk 1 rfl) (Nat.le_of_ble_eq_true rfl) rfl) (wM (vB false) (wS (Value.agg #[(vS sZ), (vI 0)]) rfl (Step.loadN Try.ag108 rfl (M.blk 0 rfl) (Nat.le_of_ble_eq_true rfl) rfl) (wM (vB false) ?_)))))
 refine WL.callX rfl (l_hit1 (⟨sZ, 0⟩ : THit) false (M.enterW0 trivial)) (CallsF.func Try.en69 rfl) ?_
 rintro _ w36 ⟨rfl, m⟩
 replace M := M.leaveW0 m
 clear m
 refine wS (vB true) rfl (Step.pick (t := true) rfl rfl) (wA (vB true) (WL.nil ?_))
 refine W.ret ?_
 refine ⟨.inl rfl, (vB true), ?_, ?_⟩
 · exact ⟨rfl, (Res.r1 (show RV _ _ _ (.tmp 6) (vB true) from by exact rfl))⟩
 refine ⟨?_, M.close [] rfl (by decide) trivial⟩
 rfl
theorem l_ends0 {G : Nat → Prop} {w : World}    (M : Mem G (fun _ => False) w [] [] w) : Rets Try.prog 44 #[vN, vZ] w fun r w' => r = (vB true) ∧ Mem G (fun _ => False) w [] [] w' := by
 refine Rets.enter 55 _ Try.func44 rfl Try.ntmps44 Try.results44 (by simp) ?_
 refine wR (wA (vB false) (WL.nil (wR (wM vN ?_))))
 refine WL.callX rfl (T_first0  (M.enterW0 trivial)) (CallsF.func Try.en77 rfl) ?_
 rintro _ w1 ⟨rfl, m⟩
 replace M := M.leaveW0 m
 clear m
 refine wM (Value.tuple #[(Value.agg #[(vS sZ), (vI 0)]), (vB false)]) (wP (Value.agg #[(vS sZ), (vI 0)]) (wP (vB false) ?_))
 refine WL.alloc (c := #[(vS sZ), (vI 0)]) M rfl Try.el41.zero rfl (fun b2 w3 hb2 M => ?_)
 refine WL.store (v := (Value.agg #[(vS sZ), (vI 0)])) (cs := [(vS sZ), (vI 0)]) (c' := #[(vS sZ), (vI 0)]) M 0 rfl rfl Try.el41.sized rfl rfl rfl rfl (Nat.le_of_ble_eq_true rfl) (cel_cons rfl (cel_cons rfl cel_nil)) rfl rfl (fun w4 M => ?_)
 refine wA (vB false) (WL.nil (wR (wM vN ?_)))
 refine WL.callX rfl (T_last0  (M.enterW0 trivial)) (CallsF.func Try.en78 rfl) ?_
 rintro _ w5 ⟨rfl, m⟩
 replace M := M.leaveW0 m
 clear m
 refine wM (Value.tuple #[(Value.agg #[(vS sZ), (vI 0)]), (vB false)]) (wP (Value.agg #[(vS sZ), (vI 0)]) (wP (vB false) ?_))
 refine WL.alloc (c := #[(vS sZ), (vI 0)]) M rfl Try.el41.zero rfl (fun b6 w7 hb6 M => ?_)
 refine WL.store (v := (Value.agg #[(vS sZ), (vI 0)])) (cs := [(vS sZ), (vI 0)]) (c' := #[(vS sZ), (vI 0)]) M 0 rfl rfl Try.el41.sized rfl rfl rfl rfl (Nat.le_of_ble_eq_true rfl) (cel_cons rfl (cel_cons rfl cel_nil)) rfl rfl (fun w8 M => ?_)
 refine wA (vB false) (WL.nil (W.seq' (wR (wM vZ (wS (vI 0) rfl (Step.lenS Try.un27 rfl rfl) ?_)))))
 refine wP (vB true) (WL.nil ?_)
 refine W.cond (t := true) rfl (fun _ => ?_) (fun h => by cases h)
 refine wR (wM (vB false) (wP (vB true) (wM (vB true) (wM (vB false) (wP (vB true) ?_)))))
 refine wS (vB true) rfl (Step.pick (t := true) rfl rfl) (wM (vB true) (wS (Value.agg #[(vS sZ), (vI 0)]) rfl (Step.loadN Try.ag41 rfl (M.blk 1 rfl) (Nat.le_of_ble_eq_true rfl) rfl) (wP (Value.agg #[(vS sZ), (vI 0)]) (wS (vB true) rfl (Step.cast (congrArg Value.bool (show ((sZ.toList == sZ.toList) && (((0 : Int) == (0 : Int)) && true)) = true by rw [hit_eqB (⟨sZ, 0⟩ : THit) (⟨sZ, 0⟩ : THit)]; simp)) (Step.eqAgg Try.eg41 rfl rfl rfl (Try.eq41 9998 sZ (0 : Int) sZ (0 : Int)))) (wS (vB true) rfl (Step.pick (t := true) rfl rfl) ?_)))))
 refine wM (vB true) (wS (Value.agg #[(vS sZ), (vI 0)]) rfl (Step.loadN Try.ag41 rfl (M.blk 0 rfl) (Nat.le_of_ble_eq_true rfl) rfl) (wP (Value.agg #[(vS sZ), (vI 0)]) (wS (vB true) rfl (Step.cast (congrArg Value.bool (show ((sZ.toList == sZ.toList) && (((0 : Int) == (0 : Int)) && true)) = true by rw [hit_eqB (⟨sZ, 0⟩ : THit) (⟨sZ, 0⟩ : THit)]; simp)) (Step.eqAgg Try.eg41 rfl rfl rfl (Try.eq41 9998 sZ (0 : Int) sZ (0 : Int)))) (wS (vB true) rfl (Step.pick (t := true) rfl rfl) (wA (vB true) ?_)))))
 refine WL.nil ?_
 refine W.ret ?_
 refine ⟨.inl rfl, (vB true), ?_, ?_⟩
 · exact ⟨rfl, (Res.r1 (show RV _ _ _ (.tmp 4) (vB true) from by exact rfl))⟩
 refine ⟨?_, M.close [] rfl (by decide) trivial⟩
 rfl
end Go.Proofs
set_option maxRecDepth 100000
namespace Go.Proofs
open Go Tp
theorem Try.un5 : Und Try.prog 5 (.int .u8) := by unfold Und; kernel_rfl
theorem Try.un121 : Und Try.prog 121 (.slice 5) := by unfold Und; kernel_rfl
theorem Try.en30 : Enters Try.prog 30 := fun _ _ => by kernel_rfl
theorem Try.en33 : Enters Try.prog 33 := fun _ _ => by kernel_rfl
theorem Try.en42 : Enters Try.prog 42 := fun _ _ => by kernel_rfl
theorem l_works {G : Nat → Prop} {w : World}    (M : Mem G (fun _ => False) w [] [] w) : Rets Try.prog 29 #[] w fun r w' => r = (vB true) ∧ Mem G (fun _ => False) w [] [] w' := by
 refine Rets.enter 122 _ Try.func29 rfl Try.ntmps29 Try.results29 (by simp) ?_
 refine wR (wA (vB false) (WL.nil (wR ?_)))
 refine WL.callX rfl (T_new  (M.enterW0 trivial)) (CallsF.func Try.en30 rfl) ?_
 rintro _ w3 ⟨tb1, S2, rfl, m⟩
 replace M := M.leaveW0 m
 clear m
 refine wA (vP tb1) (WL.nil (W.seq' (wR (wA (vI 0) (WL.nil ?_)))))
 refine W.block ?_
 replace M := M.rechunk 0 (c' := tT S2 tb1 (rowW 0) 0) rfl (rfl)
 refine W.loop (fun kk ρ w' => ∃ (i_ : Nat) (S_ : Nat → Prop), ((i_ ≤ 5) ∧ kk = 5 - i_) ∧ ρ.has [(0, (vB false)), (1, (vP tb1)), (2, (vI ↑i_))] ∧ Mem G (fun _ => False) w [tT S_ tb1 (rowW i_) i_] []  w') _ ⟨0, _, ⟨(Nat.zero_le _), rfl⟩, ⟨rfl, rfl, rfl, rfl, rfl⟩, M⟩ ?_
 rintro _ ρ5 w4 ⟨i_, S_, ⟨hi6, rfl⟩, hρ, M⟩
 obtain ⟨ρ5, rfl⟩ := hρ.know
 clear hρ
 refine W.seq' (wR (wM (vI ↑i_) (wP (vB (decide ((↑i_ : Int) < (5 : Int)))) (WL.nil ?_))))
 refine W.cond (t := decide ((↑i_ : Int) < (5 : Int))) rfl (fun h7 => ?_) (fun h7 => ?_)
 ·
  have h7p := of_decide_eq_true h7
  refine W.skip (W.seq' (W.block (W.region rfl (wM (vP tb1) (wM (vI ↑i_) ?_)))))
  refine wS (vI (97 + ↑i_)) rfl (Step.add rfl rfl (wrap_i64 (by omega))) (wS (Value.int .u8 (97 + (↑i_ : Int))) rfl (Step.cast (congrArg (Value.int .u8) (wrap_u8 (by omega))) (Step.conv Try.un3 Try.un5 rfl rfl)) ?_)
  refine WL.new (obj := .cells #[(Value.int .u8 (97 + (↑i_ : Int)))] 5) (fun b => .slice (some ⟨b, 0, none⟩) 1 1) M rfl (fun w => Step.make (by kernel_rfl)) (fun b8 w9 hb8 M => ?_)
  refine wS (vS (strOfNums ([97 + (↑i_ : Int)] : List Int))) rfl (Step.bytesStr [97 + (↑i_ : Int)] Try.un121 Try.un5 Try.un9 rfl (M.blk 0 rfl) rfl rfl) (wM (vI ↑i_) (wS (vI (↑i_ + 1)) rfl (Step.add rfl rfl (wrap_i64 (by omega))) ?_))
  have fq := M.frm [tT S_ tb1 (rowW i_) i_] [bk b8 #[(Value.int .u8 (97 + (↑i_ : Int)))] 5] [1, 0] rfl
  refine WL.callX rfl (T_put tb1 S_ (rowW i_) i_ (strOfNums ([97 + (↑i_ : Int)] : List Int)) (↑i_ + 1) (by first | assumption | omega) (M.eF fq trivial)) (CallsF.func Try.en18 rfl) ?_
  rintro _ w11 ⟨S10, rfl, m⟩
  replace M := M.lF fq m
  clear m
  refine WL.nil (W.region rfl (wM (vI ↑i_) (wS (vI (↑i_ + 1)) rfl (Step.add rfl rfl (wrap_i64 (by omega))) (wA (vI (↑i_ + 1)) (WL.nil ?_)))))
  replace M := M.rechunk 0 (c' := tT S10 tb1 (rowW (i_ + 1)) (i_ + 1)) rfl (rfl)
  replace M := M.sel (L' := [tT S10 tb1 (rowW (i_ + 1)) (i_ + 1)]) [0] rfl (by decide)
  exact ⟨_, (by omega), i_ + 1, S10, ⟨(by omega), rfl⟩, ⟨rfl, rfl, rfl, rfl, rfl⟩, M⟩
 ·
  have h7p := of_decide_eq_false h7
  refine W.exit ?_
  refine thn_exit ?_
  refine thn_exit ?_
  refine inBlk_hit ?_
  refine W.seq' ?_
  replace M := M.rechunk 0 (c' := tT S_ tb1 row5 5) rfl (by rw [show i_ = 5 by omega, rowW_5])
  refine W.region rfl (wM (vP tb1) ?_)
  have fq := M.frm [tT S_ tb1 row5 5] [] [0] rfl
  refine WL.callX rfl (T_places tb1 S_ row5 5 (by first | assumption | omega) (M.eF fq trivial)) (CallsF.func Try.en32 rfl) ?_
  rintro v12 w16 ⟨_, cs13, N14, ps15, rfl, m⟩
  replace M := M.lF fq m
  clear m
  have sl17 : IsSl v12 := SlAt.isSl (own_slAt (Mem.chunk M 1 rfl).inv)
  have hle18 := SlAt.le' (own_slAt (Mem.chunk M 1 rfl).inv)
  refine wA v12 (WL.nil (W.seq' (W.seq' ?_)))
  obtain ⟨a_, b_, c_, hps_, ha_, hb_, hc_⟩ := plc_five (M.chunk 3 rfl).inv rfl
  replace M := M.rechunk 2 (c' := rowsC 9 N14 0 cs13 ([(⟨1, false, a_⟩ : TPl), ⟨2, true, b_⟩, ⟨2, true, c_⟩])) rfl (by rw [hps_])
  have hcl_ : cs13.length = 3 := rows_len (M.chunk 2 rfl).inv
  refine W.region rfl (wM v12 (wS (vI 3) rfl (Step.cast (congrArg (Value.int .i64) (show (↑cs13.length : Int) = 3 by omega)) (Step.lenSl Try.un65 rfl (own_slAt (M.chunk 1 rfl).inv))) (wP (vB false) (wM (vB false) (wM v12 ?_)))))
  obtain ⟨cap20, hb19⟩ := SlAt.base (own_slAt (M.chunk 1 rfl).inv) (by omega)
  obtain ⟨x21, hx21⟩ := elem_of_lt (xs := cs13) (i := 0) (by omega)
  obtain ⟨p0_, hp0_, hd0_, hl0_, hs0_⟩ := rows_at (M.chunk 2 rfl).inv hx21
  obtain rfl : (⟨1, false, a_⟩ : TPl) = p0_ := Option.some.inj hp0_
  replace hd0_ : x21.depth = 1 := hd0_
  replace hl0_ : x21.leaf = false := hl0_
  have hsh0_ := SlAt.shp (hs0_ (Nat.zero_le _))
  refine wS (vQ v12 0 3) rfl (sX 0 Try.un65 Try.el74 rfl rfl hb19 rfl) (wP (vQ v12 0 3) (wS (vI 1) rfl (Step.cast (congrArg (Value.int .i64) hd0_) (Step.loadE (k := 0) Try.sc3 (flat_ec (own_slAt (M.chunk 1 rfl).inv) hx21 plcE_len) (by decide) rfl rfl)) (wP (vB false) (wS (vB false) rfl (Step.pick (t := false) rfl rfl) (wM (vB false) ?_)))))
  refine wM v12 (wS (vQ v12 0 3) rfl (sX 0 Try.un65 Try.el74 rfl rfl hb19 rfl) (wP (vR v12 0 3 1) (wS (vB false) rfl (Step.cast (congrArg Value.bool hl0_) (Step.loadE (k := 1) Try.sc4 (flat_ec (own_slAt (M.chunk 1 rfl).inv) hx21 plcE_len) (by decide) rfl rfl)) (wS (vB false) rfl (Step.pick (t := false) rfl rfl) (wM (vB false) ?_)))))
  refine wM v12 (wS (vQ v12 0 3) rfl (sX 0 Try.un65 Try.el74 rfl rfl hb19 rfl) (wP (vR v12 0 3 2) (wS x21.kv.1 rfl (Step.loadE (k := 2) Try.sc22 (flat_ec (own_slAt (M.chunk 1 rfl).inv) hx21 plcE_len) (by decide) rfl rfl) (wS (vI 1) rfl (Step.cast (congrArg (Value.int .i64) (show (↑a_.length : Int) = 1 by omega)) (Step.lenP Try.un22 rfl hsh0_)) (wP (vB false) ?_)))))
  refine wS (vB false) rfl (Step.pick (t := false) rfl rfl) (wM (vB false) (wM v12 ?_))
  obtain ⟨x22, hx22⟩ := elem_of_lt (xs := cs13) (i := 1) (by omega)
  obtain ⟨p1_, hp1_, hd1_, hl1_, hs1_⟩ := rows_at (M.chunk 2 rfl).inv hx22
  obtain rfl : (⟨2, true, b_⟩ : TPl) = p1_ := Option.some.inj hp1_
  replace hd1_ : x22.depth = 2 := hd1_
  replace hl1_ : x22.leaf = true := hl1_
  have hsh1_ := SlAt.shp (hs1_ (Nat.zero_le _))
  refine wS (vQ v12 1 3) rfl (sX 1 Try.un65 Try.el74 rfl rfl hb19 rfl) (wP (vR v12 1 3 1) (wS (vB true) rfl (Step.cast (congrArg Value.bool hl1_) (Step.loadE (k := 1) Try.sc4 (flat_ec (own_slAt (M.chunk 1 rfl).inv) hx22 plcE_len) (by decide) rfl rfl)) (wP (vB false) (wS (vB false) rfl (Step.pick (t := false) rfl rfl) (wM (vB false) ?_)))))
  refine wM v12 (wS (vQ v12 1 3) rfl (sX 1 Try.un65 Try.el74 rfl rfl hb19 rfl) (wP (vR v12 1 3 2) (wS x22.kv.1 rfl (Step.loadE (k := 2) Try.sc22 (flat_ec (own_slAt (M.chunk 1 rfl).inv) hx22 plcE_len) (by decide) rfl rfl) (wS (vI 2) rfl (Step.cast (congrArg (Value.int .i64) (show (↑b_.length : Int) = 2 by omega)) (Step.lenP Try.un22 rfl hsh1_)) (wP (vB false) ?_)))))
  refine wS (vB false) rfl (Step.pick (t := false) rfl rfl) (wM (vB false) (wM v12 ?_))
  obtain ⟨x23, hx23⟩ := elem_of_lt (xs := cs13) (i := 2) (by omega)
  obtain ⟨p2_, hp2_, hd2_, hl2_, hs2_⟩ := rows_at (M.chunk 2 rfl).inv hx23
  obtain rfl : (⟨2, true, c_⟩ : TPl) = p2_ := Option.some.inj hp2_
  replace hd2_ : x23.depth = 2 := hd2_
  replace hl2_ : x23.leaf = true := hl2_
  have hsh2_ := SlAt.shp (hs2_ (Nat.zero_le _))
  refine wS (vQ v12 2 3) rfl (sX 2 Try.un65 Try.el74 rfl rfl hb19 rfl) (wP (vR v12 2 3 1) (wS (vB true) rfl (Step.cast (congrArg Value.bool hl2_) (Step.loadE (k := 1) Try.sc4 (flat_ec (own_slAt (M.chunk 1 rfl).inv) hx23 plcE_len) (by decide) rfl rfl)) (wP (vB false) (wS (vB false) rfl (Step.pick (t := false) rfl rfl) (wM (vB false) ?_)))))
  refine wM v12 (wS (vQ v12 2 3) rfl (sX 2 Try.un65 Try.el74 rfl rfl hb19 rfl) (wP (vR v12 2 3 2) (wS x23.kv.1 rfl (Step.loadE (k := 2) Try.sc22 (flat_ec (own_slAt (M.chunk 1 rfl).inv) hx23 plcE_len) (by decide) rfl rfl) (wS (vI 2) rfl (Step.cast (congrArg (Value.int .i64) (show (↑c_.length : Int) = 2 by omega)) (Step.lenP Try.un22 rfl hsh2_)) (wP (vB false) ?_)))))
  refine wS (vB false) rfl (Step.pick (t := false) rfl rfl) (WL.nil ?_)
  refine W.cond (t := false) rfl (fun h => by cases h) (fun _ => ?_)
  refine W.skip (W.seq' ?_)
  replace M := M.loseI 1
  refine W.region rfl (wM (vP tb1) ?_)
  have fq := M.frm [tT S_ tb1 row5 5] [rowsC 9 N14 0 cs13 ([(⟨1, false, a_⟩ : TPl), ⟨2, true, b_⟩, ⟨2, true, c_⟩]), propC (PlcP row5 ps15)] [0, 1, 2] rfl
  refine WL.callX rfl (T_from tb1 S_ row5 5 (⟨#[98, 98]⟩ : ByteArray) (by first | assumption | omega) (M.eF fq trivial)) (CallsF.func Try.en45 rfl) ?_
  rintro _ w24 ⟨rfl, m⟩
  replace M := M.lF fq m
  clear m
  refine wM (Value.tuple #[(Value.agg #[(vS (((fromL row5 (⟨#[98, 98]⟩ : ByteArray)).1).key)), (vI (((fromL row5 (⟨#[98, 98]⟩ : ByteArray)).1).val))]), (vB ((fromL row5 (⟨#[98, 98]⟩ : ByteArray)).2))]) (wP (Value.agg #[(vS (((fromL row5 (⟨#[98, 98]⟩ : ByteArray)).1).key)), (vI (((fromL row5 (⟨#[98, 98]⟩ : ByteArray)).1).val))]) (wS (vB true) rfl (Step.cast (congrArg Value.bool (show ((fromL row5 (⟨#[98, 98]⟩ : ByteArray)).2) = true by decide +kernel)) sP) ?_))
  refine WL.alloc (c := #[(vS sZ), (vI 0)]) M rfl Try.el41.zero rfl (fun b25 w26 hb25 M => ?_)
  refine WL.store (v := (Value.agg #[(vS (((fromL row5 (⟨#[98, 98]⟩ : ByteArray)).1).key)), (vI (((fromL row5 (⟨#[98, 98]⟩ : ByteArray)).1).val))])) (cs := [(vS (((fromL row5 (⟨#[98, 98]⟩ : ByteArray)).1).key)), (vI (((fromL row5 (⟨#[98, 98]⟩ : ByteArray)).1).val))]) (c' := #[(vS (((fromL row5 (⟨#[98, 98]⟩ : ByteArray)).1).key)), (vI (((fromL row5 (⟨#[98, 98]⟩ : ByteArray)).1).val))]) M 0 rfl rfl Try.el41.sized rfl rfl rfl rfl (Nat.le_of_ble_eq_true rfl) (cel_cons rfl (cel_cons rfl cel_nil)) rfl rfl (fun w27 M => ?_)
  refine wA (vB true) (WL.nil (wR (wM (vP tb1) ?_)))
  have fq := M.frm [tT S_ tb1 row5 5] [bk b25 #[(vS (((fromL row5 (⟨#[98, 98]⟩ : ByteArray)).1).key)), (vI (((fromL row5 (⟨#[98, 98]⟩ : ByteArray)).1).val))] 41, rowsC 9 N14 0 cs13 ([(⟨1, false, a_⟩ : TPl), ⟨2, true, b_⟩, ⟨2, true, c_⟩]), propC (PlcP row5 ps15)] [1, 0, 2, 3] rfl
  refine WL.callX rfl (T_before tb1 S_ row5 5 (⟨#[97]⟩ : ByteArray) (by first | assumption | omega) (M.eF fq trivial)) (CallsF.func Try.en60 rfl) ?_
  rintro _ w28 ⟨rfl, m⟩
  replace M := M.lF fq m
  clear m
  refine wM (Value.tuple #[(Value.agg #[(vS (((beforeL row5 (⟨#[97]⟩ : ByteArray)).1).key)), (vI (((beforeL row5 (⟨#[97]⟩ : ByteArray)).1).val))]), (vB ((beforeL row5 (⟨#[97]⟩ : ByteArray)).2))]) (wP (Value.agg #[(vS (((beforeL row5 (⟨#[97]⟩ : ByteArray)).1).key)), (vI (((beforeL row5 (⟨#[97]⟩ : ByteArray)).1).val))]) (wS (vB false) rfl (Step.cast (congrArg Value.bool (show ((beforeL row5 (⟨#[97]⟩ : ByteArray)).2) = false by decide +kernel)) sP) ?_))
  refine WL.alloc (c := #[(vS sZ), (vI 0)]) M rfl Try.el41.zero rfl (fun b29 w30 hb29 M => ?_)
  refine WL.store (v := (Value.agg #[(vS (((beforeL row5 (⟨#[97]⟩ : ByteArray)).1).key)), (vI (((beforeL row5 (⟨#[97]⟩ : ByteArray)).1).val))])) (cs := [(vS (((beforeL row5 (⟨#[97]⟩ : ByteArray)).1).key)), (vI (((beforeL row5 (⟨#[97]⟩ : ByteArray)).1).val))]) (c' := #[(vS (((beforeL row5 (⟨#[97]⟩ : ByteArray)).1).key)), (vI (((beforeL row5 (⟨#[97]⟩ : ByteArray)).1).val))]) M 0 rfl rfl Try.el41.sized rfl rfl rfl rfl (Nat.le_of_ble_eq_true rfl) (cel_cons rfl (cel_cons rfl cel_nil)) rfl rfl (fun w31 M => ?_)
  refine wA (vB false) (WL.nil (W.seq' ?_))
  replace M := M.loseI 0
  refine W.region rfl (wM (vP tb1) ?_)
  have fq := M.frm [tT S_ tb1 row5 5] [bk b25 #[(vS (((fromL row5 (⟨#[98, 98]⟩ : ByteArray)).1).key)), (vI (((fromL row5 (⟨#[98, 98]⟩ : ByteArray)).1).val))] 41, rowsC 9 N14 0 cs13 ([(⟨1, false, a_⟩ : TPl), ⟨2, true, b_⟩, ⟨2, true, c_⟩]), propC (PlcP row5 ps15)] [0, 1, 2, 3] rfl
  refine WL.callX rfl (T_delete tb1 S_ row5 5 (⟨#[99]⟩ : ByteArray) (by first | assumption | omega) (M.eF fq trivial)) (CallsF.func Try.en19 rfl) ?_
  rintro _ w33 ⟨S32, rfl, m⟩
  replace M := M.lF fq m
  clear m
  refine wM (Value.tuple #[(vI ((getL row5 (⟨#[99]⟩ : ByteArray)).1)), (vB ((getL row5 (⟨#[99]⟩ : ByteArray)).2))]) (wP (vI ((getL row5 (⟨#[99]⟩ : ByteArray)).1)) (wS (vB true) rfl (Step.cast (congrArg Value.bool (show ((getL row5 (⟨#[99]⟩ : ByteArray)).2) = true by decide +kernel)) sP) (wA (vI ((getL row5 (⟨#[99]⟩ : ByteArray)).1)) (wA (vB true) (WL.nil ?_)))))
  refine wR (wM (vB true) (wM (vB true) (wS (Value.agg #[(vS (((fromL row5 (⟨#[98, 98]⟩ : ByteArray)).1).key)), (vI (((fromL row5 (⟨#[98, 98]⟩ : ByteArray)).1).val))]) rfl (Step.loadN Try.ag41 rfl (M.blk 1 rfl) (Nat.le_of_ble_eq_true rfl) rfl) (wP (Value.agg #[(vS (⟨#[99]⟩ : ByteArray)), (vI 3)]) (wS (vB true) rfl (Step.cast (congrArg Value.bool (show (decide (((fromL row5 (⟨#[98, 98]⟩ : ByteArray)).1) = (⟨(⟨#[99]⟩ : ByteArray), 3⟩ : THit))) = true by decide +kernel)) (Step.cast (congrArg Value.bool (hit_eqB ((fromL row5 (⟨#[98, 98]⟩ : ByteArray)).1) (⟨(⟨#[99]⟩ : ByteArray), 3⟩ : THit))) (Step.eqAgg Try.eg41 rfl rfl rfl (Try.eq41 9998 (((fromL row5 (⟨#[98, 98]⟩ : ByteArray)).1).key) (((fromL row5 (⟨#[98, 98]⟩ : ByteArray)).1).val : Int) (⟨#[99]⟩ : ByteArray) (3 : Int))))) ?_)))))
  refine wS (vB true) rfl (Step.pick (t := true) rfl rfl) (wM (vB true) (wM (vB false) (wP (vB true) (wS (vB true) rfl (Step.pick (t := true) rfl rfl) (wM (vB true) ?_)))))
  refine wM (vI ((getL row5 (⟨#[99]⟩ : ByteArray)).1)) (wS (vB true) rfl (Step.cast (congrArg Value.bool (show (((getL row5 (⟨#[99]⟩ : ByteArray)).1 : Int) == (3 : Int)) = true by decide +kernel)) sP) (wS (vB true) rfl (Step.pick (t := true) rfl rfl) (wM (vB true) (wM (vB true) (wS (vB true) rfl (Step.pick (t := true) rfl rfl) ?_)))))
  refine wM (vB true) (wM (vP tb1) ?_)
  have fq := M.frm [tT S32 tb1 (delL row5 (⟨#[99]⟩ : ByteArray)) 5] [bk b25 #[(vS (((fromL row5 (⟨#[98, 98]⟩ : ByteArray)).1).key)), (vI (((fromL row5 (⟨#[98, 98]⟩ : ByteArray)).1).val))] 41, rowsC 9 N14 0 cs13 ([(⟨1, false, a_⟩ : TPl), ⟨2, true, b_⟩, ⟨2, true, c_⟩]), propC (PlcP row5 ps15)] [0, 1, 2, 3] rfl
  refine WL.callX rfl (T_len tb1 S32 (delL row5 (⟨#[99]⟩ : ByteArray)) 5 (M.eF fq trivial)) (CallsF.func Try.en42 rfl) ?_
  rintro _ w34 ⟨rfl, m⟩
  replace M := M.lF fq m
  clear m
  refine wS (vB true) rfl (Step.cast (congrArg Value.bool (show ((↑(delL row5 (⟨#[99]⟩ : ByteArray)).length : Int) == (4 : Int)) = true by decide +kernel)) sP) (wS (vB true) rfl (Step.pick (t := true) rfl rfl) (wM (vB true) (wM (vP tb1) ?_)))
  have fq := M.frm [tT S32 tb1 (delL row5 (⟨#[99]⟩ : ByteArray)) 5] [bk b25 #[(vS (((fromL row5 (⟨#[98, 98]⟩ : ByteArray)).1).key)), (vI (((fromL row5 (⟨#[98, 98]⟩ : ByteArray)).1).val))] 41, rowsC 9 N14 0 cs13 ([(⟨1, false, a_⟩ : TPl), ⟨2, true, b_⟩, ⟨2, true, c_⟩]), propC (PlcP row5 ps15)] [0, 1, 2, 3] rfl
  refine WL.callX rfl (T_check tb1 S32 (delL row5 (⟨#[99]⟩ : ByteArray)) 5 (by first | assumption | omega) (M.eF fq trivial)) (CallsF.func Try.en33 rfl) ?_
  rintro _ w35 ⟨rfl, m⟩
  replace M := M.lF fq m
  clear m
  refine wP (vB true) (wS (vB true) rfl (Step.pick (t := true) rfl rfl) (wA (vB true) (WL.nil ?_)))
  refine W.ret ?_
  refine ⟨.inl rfl, (vB true), ?_, ?_⟩
  · exact ⟨rfl, (Res.r1 (show RV _ _ _ (.tmp 0) (vB true) from by exact rfl))⟩
  refine ⟨?_, M.close [] rfl (by decide) trivial⟩
  rfl
end Go.Proofs
set_option maxRecDepth 100000
namespace Go.Proofs
open Go Tp
theorem Try.en29 : Enters Try.prog 29 := fun _ _ => by kernel_rfl
theorem Try.en43 : Enters Try.prog 43 := fun _ _ => by kernel_rfl
theorem Try.en44 : Enters Try.prog 44 := fun _ _ => by kernel_rfl
theorem law12_none {G : Nat → Prop} {w : World} (k : ByteArray) (v : Int)   (M : Mem G (fun _ => False) w [] [] w) : Rets Try.prog 10 #[(vS k), (vI v)] w fun r w' => r = (vB true) ∧ Mem G (fun _ => False) w [] [] w' := by
 refine Rets.enter 82 _ Try.func10 rfl Try.ntmps10 Try.results10 (by simp) ?_
 refine wR (wA (vB false) (WL.nil (wR (wA vN (WL.nil ?_)))))
 refine wR (wM vN (wM (vS k) (wM (vI v) ?_)))
 refine WL.callX rfl (tab_put0 k v (M.enterW0 trivial)) (CallsF.func Try.en18 rfl) ?_
 rintro _ w1 ⟨rfl, m⟩
 replace M := M.leaveW0 m
 clear m
 refine wM (Value.tuple #[(vI 0), (vB false)]) (wP (vI 0) (wP (vB false) (wA (vI 0) (wA (vB false) (WL.nil ?_)))))
 refine wR (wM vN (wM (vS k) ?_))
 refine WL.callX rfl (T_get0 k (M.enterW0 trivial)) (CallsF.func Try.en17 rfl) ?_
 rintro _ w2 ⟨rfl, m⟩
 replace M := M.leaveW0 m
 clear m
 refine wM (Value.tuple #[(vI 0), (vB false)]) (wP (vI 0) (wP (vB false) (wA (vI 0) (wA (vB false) (WL.nil ?_)))))
 refine wR (wM vN (wM (vS k) ?_))
 refine WL.callX rfl (T_delete0 k (M.enterW0 trivial)) (CallsF.func Try.en19 rfl) ?_
 rintro _ w3 ⟨rfl, m⟩
 replace M := M.leaveW0 m
 clear m
 refine wM (Value.tuple #[(vI 0), (vB false)]) (wP (vI 0) (wP (vB false) (wA (vI 0) (wA (vB false) (WL.nil ?_)))))
 refine W.seq' (wR (wM (vI 0) (wP (vB false) (wM (vB false) (wM (vB false) ?_)))))
 refine wS (vB false) rfl (Step.pick (t := false) rfl rfl) (wM (vB false) (wM (vI 0) (wP (vB false) (wS (vB false) rfl (Step.pick (t := false) rfl rfl) (wM (vB false) ?_)))))
 refine wM (vB false) (wS (vB false) rfl (Step.pick (t := false) rfl rfl) (wM (vB false) (wM (vI 0) (wP (vB false) (wS (vB false) rfl (Step.pick (t := false) rfl rfl) ?_)))))
 refine wM (vB false) (wM (vB false) (wS (vB false) rfl (Step.pick (t := false) rfl rfl) (WL.nil ?_)))
 refine W.cond (t := false) rfl (fun h => by cases h) (fun _ => ?_)
 refine W.skip (wR (wM vN ?_))
 refine WL.callX rfl (tab_len0  (M.enterW0 trivial)) (CallsF.func Try.en42 rfl) ?_
 rintro _ w4 ⟨rfl, m⟩
 replace M := M.leaveW0 m
 clear m
 refine wP (vB true) (wM (vB true) (wM vN (wM (vS k) ?_)))
 refine WL.callX rfl (l_asks0 k (M.enterW0 trivial)) (CallsF.func Try.en43 rfl) ?_
 rintro _ w5 ⟨rfl, m⟩
 replace M := M.leaveW0 m
 clear m
 refine wS (vB true) rfl (Step.pick (t := true) rfl rfl) (wM (vB true) (wM vN ?_))
 refine WL.callX rfl (l_ends0  (M.enterW0 trivial)) (CallsF.func Try.en44 rfl) ?_
 rintro _ w6 ⟨rfl, m⟩
 replace M := M.leaveW0 m
 clear m
 refine wS (vB true) rfl (Step.pick (t := true) rfl rfl) (wM (vB true) (wM vN ?_))
 refine WL.callX rfl (tr_alln  (M.enterW0 trivial)) (CallsF.func Try.en38 rfl) ?_
 rintro v7 w8 ⟨_, rfl, m⟩
 replace M := M.leaveW0 m
 clear m
 have sl9 : IsSl v7 := SlAt.isSl (own_slAt (Mem.chunk M 0 rfl).inv)
 have hle10 := SlAt.le' (own_slAt (Mem.chunk M 0 rfl).inv)
 refine wS (vI 0) rfl (Step.cast (congrArg (Value.int .i64) (show (↑(([] : List THit).length) : Int) = 0 from rfl)) (Step.lenSl Try.un34 rfl (own_slAt (M.chunk 0 rfl).inv))) (wP (vB true) (wS (vB true) rfl (Step.pick (t := true) rfl rfl) (wM (vB true) (wM vN ?_))))
 refine WL.callX rfl (tr_Places0  (M.enterW0 trivial)) (CallsF.func Try.en32 rfl) ?_
 rintro _ w11 ⟨rfl, m⟩
 replace M := M.leaveW0 m
 clear m
 refine wS (vI 0) rfl (Step.lenS Try.un65 rfl rfl) (wP (vB true) (wS (vB true) rfl (Step.pick (t := true) rfl rfl) (wM (vB true) (wM vN ?_))))
 refine WL.callX rfl (tr_check0  (M.enterW0 trivial)) (CallsF.func Try.en33 rfl) ?_
 rintro _ w12 ⟨rfl, m⟩
 replace M := M.leaveW0 m
 clear m
 refine wP (vB true) (wS (vB true) rfl (Step.pick (t := true) rfl rfl) (wM (vB true) ?_))
 refine WL.callX rfl (l_works  (M.enterW0 trivial)) (CallsF.func Try.en29 rfl) ?_
 rintro _ w13 ⟨rfl, m⟩
 replace M := M.leaveW0 m
 clear m
 refine wS (vB true) rfl (Step.pick (t := true) rfl rfl) (wA (vB true) (WL.nil ?_))
 refine W.ret ?_
 refine ⟨.inl rfl, (vB true), ?_, ?_⟩
 · exact ⟨rfl, (Res.r1 (show RV _ _ _ (.tmp 4) (vB true) from by exact rfl))⟩
 refine ⟨?_, M.close [] rfl (by decide) trivial⟩
 rfl
end Go.Proofs
