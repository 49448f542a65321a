/- Proved here: lemmas and walks on which the claim stands (part 6 of 7). No condition. -/
import Derived.Test.YtnlnpfpfggbheaaGreatTk5
import Derived.Laws.BytesArg
set_option linter.all false
set_option maxRecDepth 100000
namespace Go.Proofs
open Go Tp
theorem Tryz.un49 : Und Tryz.prog 49 (.slice 55) := by unfold Und; kernel_rfl
theorem Tryz.el49 : Elem Tryz.prog 49 vZ 1 24 := Elem.mk (by kernel_rfl)
theorem Tryz.en40 : Enters Tryz.prog 40 := fun _ _ => by kernel_rfl
theorem Tryz.en59 : Enters Tryz.prog 59 := fun _ _ => by kernel_rfl
theorem Tryz.sc49 : Scal Tryz.prog 49 := fun _ => by kernel_rfl
theorem tr_hits1 {G X : Nat → Prop} {w : World} (y : Value) (pb : Nat) (tb ab : Nat) (rt : Handle) (fu : Bool) (ln : Int) (l : List RPlace) (S : Nat → Prop) (xs : List THit) (hA : SmallA l) (d : Nat) (hLk : fu = true → lookOk d l rt) (hxs : xs = allL fu d l rt) {ι : Type} (C : Nat → ι → Chunk) (q0_ : ι) (rf : World → Prop) (hy0 : ∀ (k : Nat) (i : ι) (x : THit) (w : World), xs[k]? = some x → Mem (avoid [C k i]) (Foots [C k i]) w [C k i] [rf] w → RetsV Tryz.prog y #[.agg #[.string x.key, .int .i64 x.val]] w fun r w' => (r = .bool true ∧ ∃ i', Mem (avoid [C k i]) (Foots [C k i]) w [C (k + 1) i'] [] w') ∨ (r = .bool false ∧ ∃ i' : ι, Mem (avoid [C k i]) (Foots [C k i]) w [badC] [] w')) (M : Mem G X w [C 0 q0_, arenaC 107 112 S ab l] [bF pb #[(vP tb)] 33, bF tb #[(vP ab), (vI rt.at_), (vI rt.turn), (vB fu), (vI ln)] 70, rf] w) : Rets Tryz.prog 59 #[y, (vP pb)] w fun r w' => ∃ q_, Mem G X w [C xs.length q_, arenaC 107 112 S ab l] [] w' := by
 refine Rets.enter 18 _ Tryz.func59 rfl Tryz.ntmps59 Tryz.results59 (by simp) ?_
 have hy := fun k i x w hx m => (hy0 k i x w hx m).mono fun r w' h => h.elim id fun ⟨_, _, m⟩ => ((m.chunk 0 rfl).inv).elim
 refine wR (wS (vP tb) rfl (Step.load1 Tryz.sc33 rfl ((cell_blk (M.rep 0 rfl) 0).trans rfl)) (wP (vB true) (wM (vB true) (wS (vP tb) rfl (Step.load1 Tryz.sc33 rfl ((cell_blk (M.rep 0 rfl) 0).trans rfl)) (wP (vP tb) ?_)))))
 refine wP (Value.pointer (some ⟨tb, 3, none⟩)) (wS (vB fu) rfl (Step.load1 Tryz.sc4 rfl ((cell_blk (M.rep 1 rfl) 3).trans rfl)) (wS (vB fu) rfl (Step.pick (t := true) rfl rfl) (WL.nil ?_)))
 refine W.cond (t := fu) rfl (fun h1 => ?_) (fun h1 => ?_)
 ·
  refine W.drawn M [0, 1, 2, 3, 4, 5, 6] [6] [] _ _ (sN (sN sE)) (fun _ h => h) Tryz.mixed (by kernel_rfl) ?_
  refine tR (vP tb) rfl (fun A w M => (Step.load1 Tryz.sc33 rfl ((cell_blk (M.rep 0 rfl) 0).trans rfl))) ?_
  refine tR (vP tb) rfl (fun A w M => (Step.load1 Tryz.sc33 rfl ((cell_blk (M.rep 0 rfl) 0).trans rfl))) ?_
  refine tP (vP tb) rfl (fun w => sP) ?_
  refine tP (Value.pointer (some ⟨tb, 1, none⟩)) rfl (fun w => sP) ?_
  refine tR (Value.agg #[(vI rt.at_), (vI rt.turn)]) rfl (fun A w M => (Step.loadN Tryz.ag68 rfl (M.rep 1 rfl) (Nat.le_of_ble_eq_true rfl) rfl)) ?_
  refine tP y rfl (fun w => (Step.move rfl)) ?_
  refine TW.callX (ι := ι) (fun jx v_ => v_ = (vB true)) (fun jx => [arenaC 107 112 S ab l, C (0 + (allT d l rt).length) jx]) (fun jx => [bF pb #[(vP tb)] 33, bF tb #[(vP ab), (vI rt.at_), (vI rt.turn), (vB fu), (vI ln)] 70, rf]) rfl (by decide) rfl (fun jx => (sN (sN sE))) (fun jx r h => h) (fun A w M => have fq := M.frm [arenaC 107 112 S ab l, C 0 q0_] [fl A] [2, 1, 0] rfl; Rets.mono (tr_below C y xs rf hy d tb ab rt fu ln l S rt 0 q0_ (by assumption) (hLk h1) (by rw [hxs, allL, if_pos h1]; exact atL_all _) (M.eF fq ⟨(M.rF fq 1 rfl), (M.rF fq 2 rfl), trivial⟩)) (fun v_ w_ ⟨q4, e_, m⟩ => ⟨q4, e_, (M.lF fq m).sel [2, 0, 1] rfl (by decide), fun b hb => M.kF fq m b hb⟩)) (fun w => CallsF.func Tryz.en60 rfl) (fun q4 v hp hin => ?_)
  replace hp := hp.symm; subst hp
  obtain ⟨_, _, hin⟩ := hin
  clear hin
  refine TW.done (fun w5 M => ?_)
  refine ⟨.inr rfl, undef, ?_, ?_⟩
  · exact ⟨rfl, Res.none⟩
  have e6 : (xs.length : Nat) = 0 + (allT d l rt).length := by
   rw [hxs, allL, if_pos h1]; exact (Nat.zero_add _).symm
  replace M := M.rechunk 1 (c' := C xs.length q4) rfl (congrArg (fun z => C z q4) (e6.symm))
  exact ⟨_, M.close [1, 0] rfl (by decide) trivial⟩
 ·
  refine W.skip ?_
  refine ⟨.inr rfl, undef, ?_, ?_⟩
  · exact ⟨rfl, Res.none⟩
  have e7 : (xs.length : Nat) = 0 := by
   rw [hxs, allL, if_neg (by simp [h1])]; rfl
  replace M := M.rechunk 0 (c' := C xs.length q0_) rfl (congrArg (fun z => C z q0_) (e7.symm))
  exact ⟨_, M.close [0, 1] rfl (by decide) trivial⟩
theorem tr_hits1n {G X : Nat → Prop} {w : World} (y : Value) (pb : Nat)    {ι : Type} (C : Nat → ι → Chunk) (q0_ : ι) (rf : World → Prop) (M : Mem G X w [C 0 q0_] [bF pb #[vN] 33, rf] w) : Rets Tryz.prog 59 #[y, (vP pb)] w fun r w' => ∃ q_, Mem G X w [C 0 q_] [] w' := by
 refine Rets.enter 18 _ Tryz.func59 rfl Tryz.ntmps59 Tryz.results59 (by simp) ?_
 refine wR (wS vN rfl (Step.load1 Tryz.sc33 rfl ((cell_blk (M.rep 0 rfl) 0).trans rfl)) (wP (vB false) (wM (vB false) ?_)))
 refine WL.pass rfl ?_
 refine WL.pass rfl ?_
 refine WL.pass rfl ?_
 refine WL.pass rfl ?_
 refine wS (vB false) rfl (Step.pick (t := false) rfl rfl) (WL.nil ?_)
 refine W.cond (t := false) rfl (fun h => by cases h) (fun _ => ?_)
 refine W.skip ?_
 refine ⟨.inr rfl, undef, ?_, ?_⟩
 · exact ⟨rfl, Res.none⟩
 exact ⟨_, M.close [0] rfl (by decide) trivial⟩
theorem tr_hits {G : Nat → Prop} {w : World} (tb : Nat)   (M : Mem G (fun _ => False) w [] [] w) : Rets Tryz.prog 40 #[(vP tb)] w fun r w' => ∃ (pb' : Nat), r = (Value.func (.func 59) #[] #[(vP pb')]) ∧ Mem G (fun _ => False) w [bk pb' #[(vP tb)] 33] [] w' := by
 refine Rets.enter 4 _ Tryz.func40 rfl Tryz.ntmps40 Tryz.results40 (by simp) ?_
 refine wR ?_
 refine WL.box (v := (vP tb)) (c := #[(vP tb)]) M rfl rfl rfl (fun b1 w2 hb1 M => ?_)
 refine wA Value.nilFunc (WL.nil (wR (wP (Value.func (.func 59) #[] #[(vP b1)]) (wA (Value.func (.func 59) #[] #[(vP b1)]) (WL.nil ?_)))))
 refine W.ret ?_
 refine ⟨.inl rfl, (Value.func (.func 59) #[] #[(vP b1)]), ?_, ?_⟩
 · exact ⟨rfl, (Res.r1 (show RV _ _ _ (.tmp 2) (Value.func (.func 59) #[] #[(vP b1)]) from by exact rfl))⟩
 refine ⟨b1, ?_, M.close [0] rfl (by decide) trivial⟩
 rfl
theorem tr_hitsn {G : Nat → Prop} {w : World}    (M : Mem G (fun _ => False) w [] [] w) : Rets Tryz.prog 40 #[vN] w fun r w' => ∃ (pb' : Nat), r = (Value.func (.func 59) #[] #[(vP pb')]) ∧ Mem G (fun _ => False) w [bk pb' #[vN] 33] [] w' := by
 refine Rets.enter 4 _ Tryz.func40 rfl Tryz.ntmps40 Tryz.results40 (by simp) ?_
 refine wR ?_
 refine WL.box (v := vN) (c := #[vN]) M rfl rfl rfl (fun b1 w2 hb1 M => ?_)
 refine wA Value.nilFunc (WL.nil (wR (wP (Value.func (.func 59) #[] #[(vP b1)]) (wA (Value.func (.func 59) #[] #[(vP b1)]) (WL.nil ?_)))))
 refine W.ret ?_
 refine ⟨.inl rfl, (Value.func (.func 59) #[] #[(vP b1)]), ?_, ?_⟩
 · exact ⟨rfl, (Res.r1 (show RV _ _ _ (.tmp 2) (Value.func (.func 59) #[] #[(vP b1)]) from by exact rfl))⟩
 refine ⟨b1, ?_, M.close [0] rfl (by decide) trivial⟩
 rfl
theorem tr_all {G X : Nat → Prop} {w : World} (tb ab : Nat) (rt : Handle) (fu : Bool) (ln : Int) (l : List RPlace) (S : Nat → Prop)  (hA : SmallA l) (d : Nat) (hLk : fu = true → lookOk d l rt) (hb : (allL fu d l rt).length ≤ 1000000) (M : Mem G X w [arenaC 107 112 S ab l] [bF tb #[(vP ab), (vI rt.at_), (vI rt.turn), (vB fu), (vI ln)] 70] w) : Rets Tryz.prog 18 #[(vP tb)] w fun r w' => ∃ (v' : Value), r = v' ∧ Mem G X w [arenaC 107 112 S ab l, own 55 2 v' ((allL fu d l rt).length) ((allL fu d l rt).flatMap hitE)] [] w' := by
 refine Rets.enterD 12 _ Tryz.func18 rfl Tryz.ntmps18 Tryz.results18 (by simp) ?_
 refine wR ?_
 refine WL.alloc (c := #[vZ]) M rfl Tryz.el49.zero rfl (fun b1 w2 hb1 M => ?_)
 refine WL.nil (W.seq' (wR (wM (vP tb) ?_)))
 refine WL.callX rfl (tr_hits tb (M.enterW0 trivial)) (CallsF.func Tryz.en40 rfl) ?_
 rintro _ w4 ⟨pb3, rfl, m⟩
 replace M := M.leaveW0 m
 clear m
 refine WL.nil (W.block ?_)
 replace M := M.ownNil 55 2
 replace M := M.rechunk 0 (c' := own 55 2 vZ (((allL fu d l rt).take 0).length) (((allL fu d l rt).take 0).flatMap hitE)) rfl rfl
 refine W.range M rfl rfl rfl Tryz.en59 (fun D6 lp7 w8 LC5 hLC9 _ _ M => ?_)
 replace M := M.sel (L' := [(LC5 LoopState.ready none), bk b1 #[vZ] 49, own 55 2 vZ (((allL fu d l rt).take 0).length) (((allL fu d l rt).take 0).flatMap hitE), blk D6 (.deferred (some [])), bk pb3 #[(vP tb)] 33, arenaC 107 112 S ab l]) [0, 4, 2, 1, 3, 5] rfl (by decide)
 replace M := Mem.packL (Ls := [(LC5 LoopState.ready none), bk b1 #[vZ] 49, own 55 2 vZ (((allL fu d l rt).take 0).length) (((allL fu d l rt).take 0).flatMap hitE)]) (L := [blk D6 (.deferred (some [])), bk pb3 #[(vP tb)] 33, arenaC 107 112 S ab l]) M
 refine Rets.mono (tr_hits1 _ pb3 tb ab rt fu ln l S (allL fu d l rt) hA d hLk rfl (ι := Value) (fun (k : Nat) (i : Value) => packL ([(LC5 LoopState.ready none), bk b1 #[i] 49, own 55 2 i (((allL fu d l rt).take k).length) (((allL fu d l rt).take k).flatMap hitE)])) vZ (fun _ => True) ?_ (M.enterW (C := [packL ([(LC5 LoopState.ready none), bk b1 #[vZ] 49, own 55 2 vZ (((allL fu d l rt).take 0).length) (((allL fu d l rt).take 0).flatMap hitE)]), arenaC 107 112 S ab l]) (D := [blk D6 (.deferred (some [])), bk pb3 #[(vP tb)] 33]) [0, 3, 1, 2] rfl (by decide) ⟨(M.wideC (C := [packL ([(LC5 LoopState.ready none), bk b1 #[vZ] 49, own 55 2 vZ (((allL fu d l rt).take 0).length) (((allL fu d l rt).take 0).flatMap hitE)]), arenaC 107 112 S ab l]) (D := [blk D6 (.deferred (some [])), bk pb3 #[(vP tb)] 33]) [0, 3, 1, 2] rfl (by decide) 1 rfl), (M.wideR (C := [packL ([(LC5 LoopState.ready none), bk b1 #[vZ] 49, own 55 2 vZ (((allL fu d l rt).take 0).length) (((allL fu d l rt).take 0).flatMap hitE)]), arenaC 107 112 S ab l]) (D := [blk D6 (.deferred (some [])), bk pb3 #[(vP tb)] 33]) [0, 3, 1, 2] rfl 0 rfl), (Sh.pure fun _ => trivial), trivial⟩)) ?_
 ·
  rintro k_ v_ x_ w10 hx_ m11
  have M := Mem.unpackL (L := []) m11
  have sl12 : IsSl v_ := SlAt.isSl (own_slAt (Mem.chunk M 2 rfl).inv)
  have hle13 := SlAt.le' (own_slAt (Mem.chunk M 2 rfl).inv)
  refine RetsV.yieldM hLC9 M 0 rfl [(Value.agg #[(vS x_.key), (vI x_.val)])] rfl (by decide) ?_
  have hacl : ((allL fu d l rt).take k_).length ≤ 1000000 := by rw [List.length_take]; omega
  refine W.region rfl ?_
  refine WL.alloc (c := #[(vS sZ), (vI 0)]) M rfl Tryz.el55.zero rfl (fun b14 w15 hb14 M => ?_)
  refine WL.store (v := (Value.agg #[(vS x_.key), (vI x_.val)])) (cs := [(vS x_.key), (vI x_.val)]) (c' := #[(vS x_.key), (vI x_.val)]) M 0 rfl rfl Tryz.el55.sized rfl rfl rfl rfl (Nat.le_of_ble_eq_true rfl) (cel_cons rfl (cel_cons rfl cel_nil)) rfl rfl (fun w16 M => ?_)
  refine WL.nil ?_
  repeat (with_reducible first | refine inBlk_normal ?_ | refine inBlk_ret ?_ | refine thn_ret ?_)
  refine RoundA.go hLC9 M 1 rfl (fun w17 M => ?_)
  refine W.block (W.region rfl (wS v_ rfl (Step.load1 Tryz.sc49 rfl ((M.cell 2 rfl 0).trans rfl)) (wS (Value.agg #[(vS x_.key), (vI x_.val)]) rfl (Step.loadN Tryz.ag55 rfl (M.blk 0 rfl) (Nat.le_of_ble_eq_true rfl) rfl) ?_)))
  refine WL.new (obj := .cells #[(vS x_.key), (vI x_.val)] 55) (fun b => .slice (some ⟨b, 0, none⟩) 1 1) M rfl (fun w => Step.make (by kernel_rfl)) (fun b18 w19 hb18 M => ?_)
  refine WL.does rfl (M.appendF ((allL fu d l rt).take k_) ([x_] : List THit) (sv := (Value.slice (some ⟨b18, 0, none⟩) 1 1)) 4 Tryz.un49 Tryz.el55 rfl (by decide) rfl rfl rfl (SlAt.of_blk (M.blk 0 rfl) rfl (by decide)) hitE_cel (by have := hacl; simp only [maxLen, List.length_nil, List.length_cons, List.length_append]; omega) (by have := hacl; (try simp only [List.length_nil, List.length_cons, List.length_append]); omega)) ?_
  rintro v20 w21 M
  have sl22 : IsSl v20 := SlAt.isSl (own_slAt (M.chunk 4 rfl).inv)
  refine WL.store (v := v20) (cs := [v20]) (c' := #[v20]) M 3 rfl rfl Tryz.el49.sized rfl rfl (IsSl.list sl22) rfl (Nat.le_of_ble_eq_true rfl) (cel_cons (IsSl.cel sl22) cel_nil) rfl rfl (fun w23 M => ?_)
  refine WL.nil ?_
  repeat (with_reducible first | refine inBlk_normal ?_ | refine inBlk_ret ?_ | refine thn_ret ?_)
  refine RoundQ.go hLC9 M 2 rfl (fun w24 M => ?_)
  replace M := M.rechunk 4 (c' := own 55 2 v20 (((allL fu d l rt).take (k_ + 1)).length) (((allL fu d l rt).take (k_ + 1)).flatMap hitE)) rfl (by rw [← take_snoc hx_])
  refine .inl ⟨rfl, v20, ?_⟩
  exact Mem.packL (Ls := [(LC5 LoopState.ready none), bk b1 #[v20] 49, own 55 2 v20 (((allL fu d l rt).take (k_ + 1)).length) (((allL fu d l rt).take (k_ + 1)).flatMap hitE)]) (L := []) (M.close (L' := [(LC5 LoopState.ready none), bk b1 #[v20] 49, own 55 2 v20 (((allL fu d l rt).take (k_ + 1)).length) (((allL fu d l rt).take (k_ + 1)).flatMap hitE)]) [2, 3, 4] rfl (by decide) trivial)
 ·
  rintro _ w25 ⟨v_, m⟩
  replace M := M.leaveW (C := [packL ([(LC5 LoopState.ready none), bk b1 #[vZ] 49, own 55 2 vZ (((allL fu d l rt).take 0).length) (((allL fu d l rt).take 0).flatMap hitE)]), arenaC 107 112 S ab l]) (D := [blk D6 (.deferred (some [])), bk pb3 #[(vP tb)] 33]) [0, 3, 1, 2] rfl (by decide) m
  replace M := Mem.unpackL M
  have sl26 : IsSl v_ := SlAt.isSl (own_slAt (Mem.chunk M 2 rfl).inv)
  have hle27 := SlAt.le' (own_slAt (Mem.chunk M 2 rfl).inv)
  obtain ⟨_, hr1, hr2, hr3, M⟩ := M.endLoop' hLC9 0 rfl (by decide)
  refine ⟨_, hr1, hr2, .inl ⟨hr3, ?_⟩⟩
  replace M := M.rechunk 1 (c' := own 55 2 v_ ((allL fu d l rt).length) ((allL fu d l rt).flatMap hitE)) rfl (by rw [List.take_length])
  refine wR (wS v_ rfl (Step.load1 Tryz.sc49 rfl ((M.cell 0 rfl 0).trans rfl)) ?_)
  refine WL.store (v := v_) (cs := [v_]) (c' := #[v_]) M 0 rfl rfl Tryz.el49.sized rfl rfl (IsSl.list sl26) rfl (Nat.le_of_ble_eq_true rfl) (cel_cons (IsSl.cel sl26) cel_nil) rfl rfl (fun w29 M => ?_)
  refine WL.nil ?_
  refine W.ret ?_
  obtain ⟨hD30, M⟩ := M.strike 3 rfl
  refine ⟨.inl rfl, _, (.cons hD30 .nil), v_, ?_, ?_⟩
  · exact (Res.r1 (RV.cell1 Tryz.sc49 rfl (M.blk 0 rfl)))
  refine ⟨v_, ?_, M.close [2, 1] rfl (by decide) trivial⟩
  rfl
theorem tr_alln {G : Nat → Prop} {w : World}    (M : Mem G (fun _ => False) w [] [] w) : Rets Tryz.prog 18 #[vN] w fun r w' => ∃ (v' : Value), r = v' ∧ Mem G (fun _ => False) w [own 55 2 v' (([] : List THit).length) (([] : List THit).flatMap hitE)] [] w' := by
 refine Rets.enterD 12 _ Tryz.func18 rfl Tryz.ntmps18 Tryz.results18 (by simp) ?_
 refine wR ?_
 refine WL.alloc (c := #[vZ]) M rfl Tryz.el49.zero rfl (fun b1 w2 hb1 M => ?_)
 refine WL.nil (W.seq' (wR (wM vN ?_)))
 refine WL.callX rfl (tr_hitsn  (M.enterW0 trivial)) (CallsF.func Tryz.en40 rfl) ?_
 rintro _ w4 ⟨pb3, rfl, m⟩
 replace M := M.leaveW0 m
 clear m
 refine WL.nil (W.block ?_)
 refine W.range M rfl rfl rfl Tryz.en59 (fun D6 lp7 w8 LC5 hLC9 _ _ M => ?_)
 replace M := M.sel (L' := [(LC5 LoopState.ready none), bk b1 #[vZ] 49, blk D6 (.deferred (some [])), bk pb3 #[vN] 33]) [0, 3, 1, 2] rfl (by decide)
 replace M := Mem.packL (Ls := [(LC5 LoopState.ready none), bk b1 #[vZ] 49]) (L := [blk D6 (.deferred (some [])), bk pb3 #[vN] 33]) M
 refine Rets.mono (tr_hits1n _ pb3 (ι := Unit) (fun (k : Nat) (i : Unit) => packL ([(LC5 LoopState.ready none), bk b1 #[vZ] 49])) () (fun _ => True) (M.enterW (C := [packL ([(LC5 LoopState.ready none), bk b1 #[vZ] 49])]) (D := [blk D6 (.deferred (some [])), bk pb3 #[vN] 33]) [0, 1, 2] rfl (by decide) ⟨(M.wideC (C := [packL ([(LC5 LoopState.ready none), bk b1 #[vZ] 49])]) (D := [blk D6 (.deferred (some [])), bk pb3 #[vN] 33]) [0, 1, 2] rfl (by decide) 1 rfl), (Sh.pure fun _ => trivial), trivial⟩)) ?_
 rintro _ w10 ⟨_, m⟩
 replace M := M.leaveW (C := [packL ([(LC5 LoopState.ready none), bk b1 #[vZ] 49])]) (D := [blk D6 (.deferred (some [])), bk pb3 #[vN] 33]) [0, 1, 2] rfl (by decide) m
 replace M := Mem.unpackL M
 obtain ⟨_, hr1, hr2, hr3, M⟩ := M.endLoop' hLC9 0 rfl (by decide)
 refine ⟨_, hr1, hr2, .inl ⟨hr3, ?_⟩⟩
 refine wR (wS vZ rfl (Step.load1 Tryz.sc49 rfl ((M.cell 0 rfl 0).trans rfl)) ?_)
 refine WL.store (v := vZ) (cs := [vZ]) (c' := #[vZ]) M 0 rfl rfl Tryz.el49.sized rfl rfl rfl rfl (Nat.le_of_ble_eq_true rfl) (cel_cons rfl cel_nil) rfl rfl (fun w12 M => ?_)
 refine WL.nil ?_
 refine W.ret ?_
 obtain ⟨hD13, M⟩ := M.strike 1 rfl
 refine ⟨.inl rfl, _, (.cons hD13 .nil), vZ, ?_, ?_⟩
 · exact (Res.r1 (RV.cell1 Tryz.sc49 rfl (M.blk 0 rfl)))
 replace M := M.ownNil 55 2
 have e14 : ([] : List THit) = [] := by
  rfl
 replace M := M.rechunk 0 (c' := own 55 2 vZ (([] : List THit).length) (([] : List THit).flatMap hitE)) rfl (by rw [e14]; try rfl)
 refine ⟨vZ, ?_, M.close [0] rfl (by decide) trivial⟩
 rfl
end Go.Proofs
namespace Tp
open Go
structure PlC where
  depth : Int
  leaf : Bool
  kv : {v : Value // IsSl v}
def plcE (p : PlC) : List Value := [.int .i64 p.depth, .bool p.leaf, p.kv.1]
theorem plcE_len (p : PlC) : (plcE p).length = 3 := rfl
theorem plcE_cel (p : PlC) : Step.Cellish (plcE p) := cel_cons rfl (cel_cons rfl (cel_cons p.kv.2.cel cel_nil))
def rowsC (es : TypeId) (N : Nat → Prop) (k : Nat) (cs : List PlC) (ps : List TPl) : Chunk :=
  ⟨N, fun w => cs.length = ps.length ∧ ∀ (i : Nat) (c : PlC) (p : TPl), cs[i]? = some c → ps[i]? = some p → c.depth = p.depth ∧ c.leaf = p.leaf ∧
    (k ≤ i → w.ownsRow 0 es 1 c.kv.1 p.keys.length (p.keys.flatMap strE) ∧ ∀ b, c.kv.1.ownBlock = some b → N b ∧ ∀ (j : Nat) (c' : PlC), j ≠ i → k ≤ j → cs[j]? = some c' → c'.kv.1.ownBlock ≠ some b)⟩
def plRep (cs : List Value) (p : TPl) (w : World) : Prop := ∃ kv, cs = [.int .i64 p.depth, .bool p.leaf, kv] ∧ SlAt 1 kv p.keys.length (p.keys.flatMap strE) w
def PlT : Ty TPl := ⟨3, plRep, fun _ _ _ ⟨_, h, _⟩ => by rw [h]; rfl⟩
section
variable {F X : Nat → Prop} {w0 w : World} {L Ls : List Chunk} {R : List (World → Prop)} {es e : TypeId} {N : Nat → Prop} {k i : Nat} {cs : List PlC} {ps : List TPl} {c : Chunk} {x : PlC} {p : TPl} {v : Value}
theorem Mem.split (M : Mem F X w0 (c :: L) R w) (hok : ∀ d, d ∈ Ls → d.Ok w) (hpw : Ls.Pairwise fun c d => ∀ b, c.foot b → ¬ d.foot b) (hf : ∀ d, d ∈ Ls → ∀ b, d.foot b → c.foot b) : Mem F X w0 (Ls ++ L) R w := by
  have hp := List.pairwise_cons.1 M.disj
  refine ⟨M.mod, fun c hc => ?_, List.pairwise_append.2 ⟨hpw, hp.2, fun c hc d hd b hb => hp.1 d hd b (hf c hc b hb)⟩, fun d hd b hb => ?_, fun r hr => (M.sh r hr).mono fun b hb _ => ⟨hb.1, fun d hd hcb => ?_⟩⟩
  · rcases List.mem_append.1 hc with hc | hc
    · exact hok c hc
    · exact M.ok c (by simp [hc])
  · rcases List.mem_append.1 hd with hd | hd
    · exact M.in_ c (by simp) b (hf d hd b hb)
    · exact M.in_ d (by simp [hd]) b hb
  · rcases List.mem_append.1 hd with hd | hd
    · exact hb.2 c (by simp) (hf d hd b hcb)
    · exact hb.2 d (by simp [hd]) hcb
theorem Mem.rowsNil (M : Mem F X w0 L R w) (es : TypeId) : Mem F X w0 (rowsC es (fun _ => False) 0 [] [] :: L) R w :=
  M.own (Mod.refl _ _) ⟨fun _ h => h.elim, fun w' _ => ⟨rfl, fun i c p h => by simp at h⟩⟩ fun _ h => h.elim
theorem Mem.rowsAdd {d : Int} {lf : Bool} {sl : IsSl v} {ks : List ByteArray} (M : Mem F X w0 (rowsC es N 0 cs ps :: Tp.own es 1 v ks.length (ks.flatMap strE) :: L) R w) :
    ∃ N', Mem F X w0 (rowsC es N' 0 (cs ++ [(⟨d, lf, ⟨v, sl⟩⟩ : PlC)]) (ps ++ [(⟨d, lf, ks⟩ : TPl)]) :: L) R w := by
  have hd : ∀ b, N b → v.ownBlock ≠ some b := fun b hb => (List.pairwise_cons.1 M.disj).1 _ (List.mem_cons_self ..) b hb
  refine ⟨Foots [rowsC es N 0 cs ps, Tp.own es 1 v ks.length (ks.flatMap strE)], ?_⟩
  refine Mem.take (C' := [_, _]) M _ rfl fun w' hok => ?_
  obtain ⟨h1, h2⟩ := (hok _ (List.mem_cons_self ..)).inv
  have h3 : w'.ownsRow 0 es 1 v ks.length (ks.flatMap strE) := (hok _ (List.mem_cons_of_mem _ (List.mem_cons_self ..))).inv
  have at_ : ∀ {j : Nat} {c : PlC}, (cs ++ [(⟨d, lf, ⟨v, sl⟩⟩ : PlC)])[j]? = some c → cs[j]? = some c ∨ (j = cs.length ∧ c = ⟨d, lf, ⟨v, sl⟩⟩) := fun {j c} h => by
    rcases Nat.lt_or_ge j cs.length with hj | hj
    · rw [List.getElem?_append_left hj] at h; exact .inl h
    · rw [List.getElem?_append_right hj] at h
      cases hjj : j - cs.length with
      | zero => rw [hjj] at h; simp at h; exact .inr ⟨by omega, h.symm⟩
      | succ m => rw [hjj] at h; simp at h
  refine ⟨by simp [h1], fun i c p hc hp => ?_⟩
  rcases at_ hc with hc | ⟨rfl, rfl⟩
  · have hi := (List.getElem?_eq_some_iff.1 hc).1
    rw [List.getElem?_append_left (by omega)] at hp
    obtain ⟨g1, g2, g3⟩ := h2 i c p hc hp
    refine ⟨g1, g2, fun hk => ⟨(g3 hk).1, fun b hb => ⟨⟨_, List.mem_cons_self .., ((g3 hk).2 b hb).1⟩, fun j c' hj hjk hc' => ?_⟩⟩⟩
    rcases at_ hc' with hc' | ⟨rfl, rfl⟩
    · exact ((g3 hk).2 b hb).2 j c' hj hjk hc'
    · exact hd b ((g3 hk).2 b hb).1
  · rw [List.getElem?_append_right (by omega), h1, Nat.sub_self] at hp
    simp at hp; subst hp
    refine ⟨rfl, rfl, fun _ => ⟨h3, fun b hb => ⟨⟨_, List.mem_cons_of_mem _ (List.mem_cons_self ..), hb⟩, fun j c' hj hjk hc' => ?_⟩⟩⟩
    rcases at_ hc' with hc' | ⟨rfl, rfl⟩
    · intro hb'
      have hlt := (List.getElem?_eq_some_iff.1 hc').1
      obtain ⟨q, hq⟩ : ∃ q, ps[j]? = some q := ⟨_, List.getElem?_eq_getElem (by omega)⟩
      exact hd b (((h2 j c' q hc' hq).2.2 hjk).2 b hb').1 hb
    · exact absurd rfl hj
theorem rows_at (h : (rowsC es N k cs ps).inv w) (hx : cs[i]? = some x) : ∃ p, ps[i]? = some p ∧ x.depth = p.depth ∧ x.leaf = p.leaf ∧ (k ≤ i → SlAt 1 x.kv.1 p.keys.length (p.keys.flatMap strE) w) := by
  obtain ⟨h1, h2⟩ := h
  have hi := (List.getElem?_eq_some_iff.1 hx).1
  obtain ⟨q, hq⟩ : ∃ q, ps[i]? = some q := ⟨_, List.getElem?_eq_getElem (by omega)⟩
  obtain ⟨g1, g2, g3⟩ := h2 i x q hx hq
  exact ⟨q, hq, g1, g2, fun hk => own_slAt (g3 hk).1⟩
theorem rows_len (h : (rowsC es N k cs ps).inv w) : cs.length = ps.length := h.1
theorem Mem.rowsOut (M : Mem F X w0 (rowsC es N k cs ps :: L) R w) (hx : cs[k]? = some x) (hp : ps[k]? = some p) : ∃ N', Mem F X w0 (Tp.own es 1 x.kv.1 p.keys.length (p.keys.flatMap strE) :: rowsC es N' (k + 1) cs ps :: L) R w := by
  obtain ⟨h1, h2⟩ := (M.chunk 0 rfl).inv
  obtain ⟨_, _, g3⟩ := h2 k x p hx hp
  obtain ⟨g4, g5⟩ := g3 (Nat.le_refl _)
  refine ⟨fun b => N b ∧ x.kv.1.ownBlock ≠ some b, Mem.split (Ls := [_, _]) M (fun d hd => ?_) ?_ (fun d hd b hb => ?_)⟩
  · rcases List.mem_cons.1 hd with rfl | hd
    · exact own_ok g4
    · rw [List.mem_singleton.1 hd]
      refine ⟨fun b hb => (M.chunk 0 rfl).lt b hb.1, fun w' hw => ⟨h1, fun i c q hc hq => ?_⟩⟩
      obtain ⟨q1, q2, q3⟩ := h2 i c q hc hq
      refine ⟨q1, q2, fun hk => ?_⟩
      obtain ⟨q4, q5⟩ := q3 (by omega)
      have hne : ∀ b, c.kv.1.ownBlock = some b → x.kv.1.ownBlock ≠ some b := fun b hb => (q5 b hb).2 k x (by omega) (Nat.le_refl _) hx
      exact ⟨(own_ok q4).loc w' fun b hb => hw b ⟨(q5 b hb).1, hne b hb⟩, fun b hb => ⟨⟨(q5 b hb).1, hne b hb⟩, fun j c' hj hjk => (q5 b hb).2 j c' hj (by omega)⟩⟩
  · refine List.pairwise_cons.2 ⟨fun d hd b hb => ?_, List.pairwise_singleton _ _⟩
    rw [List.mem_singleton.1 hd]
    exact fun hn => hn.2 hb
  · rcases List.mem_cons.1 hd with rfl | hd
    · exact (g5 b hb).1
    · rw [List.mem_singleton.1 hd] at hb; exact hb.1
theorem rows_rep (h1 : SlAt 3 v cs.length (cs.flatMap plcE) w) (h2 : (rowsC es N 0 cs ps).inv w) : RepS PlT v ps w := by
  obtain ⟨cells, h3, h4, h5⟩ := (RepS.flat (he := plcE_len)).2 h1
  obtain ⟨g1, g2⟩ := h2
  refine ⟨cells, g1 ▸ h3, by rw [← g1]; exact h4, fun i p hp => ?_⟩
  have hi := (List.getElem?_eq_some_iff.1 hp).1
  obtain ⟨c, hc⟩ : ∃ c, cs[i]? = some c := ⟨_, List.getElem?_eq_getElem (by omega)⟩
  obtain ⟨q1, q2, q3⟩ := g2 i c p hc hp
  have e := h5 i c hc
  refine ⟨c.kv.1, ?_, own_slAt (q3 (Nat.zero_le _)).1⟩
  rw [← q1, ← q2]; exact e
theorem pl_open {n : Nat} {cells : List Value} {p : TPl} (M : Mem F X w0 L R w) (j k : Nat) (hj : R[j]? = some (SlAt 3 v n cells)) (hk : R[k]? = some (RepL PlT cells ps)) (hn : n = ps.length) (hx : ps[i]? = some p) :
    ∃ kv, Mem F X w0 L (EC v 3 i [.int .i64 p.depth, .bool p.leaf, kv] :: SlAt 1 kv p.keys.length (p.keys.flatMap strE) :: R) w := by
  obtain ⟨lv, hcs, _⟩ := (M.rep k hk).2 i p hx
  have get : ∀ w, RepL PlT cells ps w → SlAt 1 lv p.keys.length (p.keys.flatMap strE) w := fun w h => by
    obtain ⟨lv', hcs', h'⟩ := h.2 i p hx
    rw [hcs] at hcs'
    simp only [List.cons.injEq, and_true, true_and] at hcs'
    subst hcs'
    exact h'
  refine ⟨lv, ?_⟩
  have M1 := M.add ((M.shr k hk).imp fun w h => get w h)
  refine M1.add (((M.shr j hj).and (M.shr k hk)).imp fun w ⟨h1, h2⟩ => ?_)
  subst hn
  obtain ⟨cs', h3, h4⟩ := RepS.elem (T := PlT) ⟨cells, h1, h2⟩ hx
  obtain ⟨hb, hc⟩ := h4
  refine ⟨hb, fun m hm => ?_⟩
  have hi : i < ps.length := (List.getElem?_eq_some_iff.1 hx).1
  rw [Nat.add_assoc, h1.cell _ (mul_add_lt hi hm)]
  have : ((cells.drop (i * 3)).take 3)[m]? = [Value.int .i64 p.depth, .bool p.leaf, lv][m]? := by rw [← hcs]; rfl
  rw [List.getElem?_take, if_pos hm, List.getElem?_drop] at this
  exact this
end
end Tp
namespace Tp
theorem up_not {xs : List THit} {i j : Nat} {a b : THit} (hu : upT xs) (ha : xs[i]? = some a) (hb : xs[j]? = some b) (h : i < j) : sLt b.key a.key = false := by
  obtain ⟨h1, rfl⟩ := List.getElem?_eq_some_iff.1 ha
  obtain ⟨h2, rfl⟩ := List.getElem?_eq_some_iff.1 hb
  exact sLt_asymm (List.pairwise_iff_getElem.1 hu i j h1 h2 h)
theorem up_yes {xs : List THit} {i j : Nat} {a b : THit} (hu : upT xs) (ha : xs[i]? = some a) (hb : xs[j]? = some b) (h : i < j) : sLt a.key b.key = true := by
  obtain ⟨h1, rfl⟩ := List.getElem?_eq_some_iff.1 ha
  obtain ⟨h2, rfl⟩ := List.getElem?_eq_some_iff.1 hb
  exact List.pairwise_iff_getElem.1 hu i j h1 h2 h
end Tp
set_option maxRecDepth 100000
namespace Go.Proofs
open Go Tp
theorem Tryz.un38 : Und Tryz.prog 38 (.slice 47) := by unfold Und; kernel_rfl
theorem Tryz.el47 : Elem Tryz.prog 47 (Value.agg #[(vI 0), (vB false), vZ]) 3 40 := Elem.mk (by kernel_rfl)
theorem Tryz.en32 : Enters Tryz.prog 32 := fun _ _ => by kernel_rfl
abbrev oP (v : Value) (xs : List PlC) : Chunk := own 47 3 v xs.length (xs.flatMap plcE)
abbrev fP (v : Value) (xs : List PlC) : World → Prop := SlAt 3 v xs.length (xs.flatMap plcE)
abbrev oR (v : Value) (xs : List THit) : Chunk := own 55 2 v xs.length (xs.flatMap hitE)
abbrev fR (v : Value) (xs : List THit) : World → Prop := SlAt 2 v xs.length (xs.flatMap hitE)
theorem tr_places : ∀ (d : Nat) {G X : Nat → Prop} {w : World} (tb ab : Nat) (r : Handle) (fu : Bool) (ln : Int) (l : List RPlace) (S : Nat → Prop) (v : Value) (cs : List PlC) (N : Nat → Prop) (ps : List TPl) (h : Handle) (q : Int)  (hA : SmallA l) (hO : plOk d l h) (hq : 0 ≤ q ∧ q + (d : Int) ≤ 1000000) (hb : ps.length + (placesT d l h q).length ≤ 1000000) (M : Mem G X w [arenaC 107 112 S ab l, oP v cs, rowsC 9 N 0 cs ps] [bF tb #[(vP ab), (vI r.at_), (vI r.turn), (vB fu), (vI ln)] 70] w), Rets Tryz.prog 32 #[(vP tb), v, (Value.agg #[(vI h.at_), (vI h.turn)]), (vI q)] w fun r w' => ∃ (v' : Value) (cs' : List PlC) (N' : Nat → Prop), r = v' ∧ Mem G X w [arenaC 107 112 S ab l, oP v' cs', rowsC 9 N' 0 cs' (ps ++ placesT d l h q)] [] w' := by
 intro d
 induction d using Nat.strongRecOn
 rename_i d ih
 intro G X w tb ab r fu ln l S v cs N ps h q hA hO hq hb M
 refine Rets.enter 39 _ Tryz.func32 rfl Tryz.ntmps32 Tryz.results32 (by simp) ?_
 have sl1 : IsSl v := SlAt.isSl (own_slAt (Mem.chunk M 1 rfl).inv)
 have hle2 := SlAt.le' (own_slAt (Mem.chunk M 1 rfl).inv)
 obtain ⟨n, hn⟩ : ∃ n, (rget l h).1 = n := ⟨_, rfl⟩
 obtain ⟨ht1, ht2, ht3⟩ := plOk_node hO hn
 have hcl_ : cs.length ≤ 1000000 := by have := rows_len (M.chunk 2 rfl).inv; omega
 refine wR ?_
 refine WL.box (v := (Value.agg #[(vI h.at_), (vI h.turn)])) (c := #[(vI h.at_), (vI h.turn)]) M rfl rfl rfl (fun b3 w4 hb3 M => ?_)
 refine wA vZ (WL.nil (wR (wM (vP tb) (wS (Value.agg #[(vI h.at_), (vI h.turn)]) rfl (Step.loadN Tryz.ag68 rfl (M.blk 0 rfl) (Nat.le_of_ble_eq_true rfl) rfl) ?_))))
 have fq := M.frm [arenaC 107 112 S ab l] [bk b3 #[(vI h.at_), (vI h.turn)] 68, oP v cs, rowsC 9 N 0 cs ps] [1, 0, 2, 3] rfl
 refine WL.callX rfl (tr_node tb ab r fu ln l S h (by assumption) n hn (M.eF fq ⟨(M.rF fq 0 rfl), trivial⟩)) (CallsF.func Tryz.en52 rfl) ?_
 rintro _ w8 ⟨kv5, dv6, vv7, rfl, m⟩
 replace M := M.lF fq m
 clear m
 have sl9 : IsSl kv5 := SlAt.isSl (own_slAt (Mem.chunk M 1 rfl).inv)
 have hle10 := SlAt.le' (own_slAt (Mem.chunk M 1 rfl).inv)
 have sl11 : IsSl dv6 := SlAt.isSl (own_slAt (Mem.chunk M 2 rfl).inv)
 have hle12 := SlAt.le' (own_slAt (Mem.chunk M 2 rfl).inv)
 have sl13 : IsSl vv7 := SlAt.isSl (own_slAt (Mem.chunk M 3 rfl).inv)
 have hle14 := SlAt.le' (own_slAt (Mem.chunk M 3 rfl).inv)
 refine WL.alloc (c := #[(vB false), vZ, vZ, vZ]) M rfl Tryz.el93.zero rfl (fun b15 w16 hb15 M => ?_)
 refine WL.store (v := (Value.agg #[(vB n.leaf), kv5, dv6, vv7])) (cs := [(vB n.leaf), kv5, dv6, vv7]) (c' := #[(vB n.leaf), kv5, dv6, vv7]) M 0 rfl rfl Tryz.el93.sized rfl rfl rfl rfl (Nat.le_of_ble_eq_true rfl) (cel_cons rfl (cel_cons (IsSl.cel sl9) (cel_cons (IsSl.cel sl11) (cel_cons (IsSl.cel sl13) cel_nil)))) rfl rfl (fun w17 M => ?_)
 refine WL.nil (wR (wM v (wM (vI q) (wP (vP b15) (wS (vB n.leaf) rfl (Step.load1 Tryz.sc4 rfl ((M.cell 0 rfl 0).trans rfl)) ?_)))))
 refine wP (Value.pointer (some ⟨b15, 1, none⟩)) (wS kv5 rfl (Step.load1 Tryz.sc23 rfl ((M.cell 0 rfl 1).trans rfl)) (wS (Value.agg #[(vI q), (vB n.leaf), kv5]) rfl (by obtain ⟨_, _, _, e⟩ := sl9; subst e; exact sP) ?_))
 refine WL.new (obj := .cells #[(vI q), (vB n.leaf), kv5] 47) (fun b => .slice (some ⟨b, 0, none⟩) 1 1) M rfl (fun w => (by obtain ⟨_, _, _, e⟩ := sl9; subst e; exact Step.make (by kernel_rfl))) (fun b18 w19 hb18 M => ?_)
 refine WL.does rfl (M.appendF cs ([(⟨q, n.leaf, ⟨kv5, sl9⟩⟩ : PlC)] : List PlC) (sv := (Value.slice (some ⟨b18, 0, none⟩) 1 1)) 7 Tryz.un38 Tryz.el47 rfl (by decide) rfl rfl rfl (SlAt.of_blk (M.blk 0 rfl) rfl (by decide)) plcE_cel (by have := hcl_; simp only [maxLen, List.length_nil, List.length_cons, List.length_append]; omega) (by have := hcl_; (try simp only [List.length_nil, List.length_cons, List.length_append]); omega)) ?_
 rintro v20 w21 M
 have sl22 : IsSl v20 := SlAt.isSl (own_slAt (M.chunk 7 rfl).inv)
 refine wA v20 (WL.nil (W.seq' (W.seq' ?_)))
 replace M := M.sel (L' := [rowsC 9 N 0 cs ps, oS kv5 n.keys, bk b18 #[(vI q), (vB n.leaf), kv5] 47, bk b15 #[(vB n.leaf), kv5, dv6, vv7] 93, arenaC 107 112 S ab l, oH dv6 n.kids, oI vv7 n.vals, bk b3 #[(vI h.at_), (vI h.turn)] 68, oP v20 (cs ++ ([(⟨q, n.leaf, ⟨kv5, sl9⟩⟩ : PlC)] : List PlC))]) [8, 3, 0, 1, 2, 4, 5, 6, 7] rfl (by decide)
 obtain ⟨N2_, M⟩ := M.rowsAdd (d := q) (lf := n.leaf) (sl := sl9) (ks := n.keys)
 replace M := M.rechunk 0 (c' := rowsC 9 N2_ 0 (cs ++ ([(⟨q, n.leaf, ⟨kv5, sl9⟩⟩ : PlC)] : List PlC)) (ps ++ (⟨q, n.leaf, n.keys⟩ : TPl) :: kidsP d l n q 0)) rfl (by rw [kidsP_zero])
 refine W.region rfl (wP (Value.pointer (some ⟨b15, 2, none⟩)) (wS dv6 rfl (Step.load1 Tryz.sc90 rfl ((M.cell 2 rfl 2).trans rfl)) (wS (vI ↑n.kids.length) rfl (Step.lenSl Tryz.un90 rfl (own_slAt (M.chunk 4 rfl).inv)) (wM (vI 0) (WL.nil ?_)))))
 refine W.block ?_
 replace M := M.loseI 6
 replace M := M.loseI 5
 replace M := M.loseI 2
 replace M := M.loseI 1
 replace M := M.sel (L' := [oP v20 (cs ++ ([(⟨q, n.leaf, ⟨kv5, sl9⟩⟩ : PlC)] : List PlC)), rowsC 9 N2_ 0 (cs ++ ([(⟨q, n.leaf, ⟨kv5, sl9⟩⟩ : PlC)] : List PlC)) (ps ++ (⟨q, n.leaf, n.keys⟩ : TPl) :: kidsP d l n q 0), arenaC 107 112 S ab l, oH dv6 n.kids]) [3, 0, 1, 2] rfl (by decide)
 refine W.loop (fun kk ρ w' => ∃ (i_ : Nat) (v_ : Value) (cs_ : List PlC) (N_ : Nat → Prop), ((i_ ≤ n.kids.length) ∧ kk = n.kids.length - i_) ∧ ρ.has [(0, (vP tb)), (1, v_), (3, (vI q)), (8, vZ), (25, dv6), (26, (vI ↑n.kids.length)), (27, (vI ↑i_))] ∧ Mem G X w [oP v_ cs_, rowsC 9 N_ 0 cs_ (ps ++ (⟨q, n.leaf, n.keys⟩ : TPl) :: kidsP d l n q i_), arenaC 107 112 S ab l, oH dv6 n.kids] [bF tb #[(vP ab), (vI r.at_), (vI r.turn), (vB fu), (vI ln)] 70]  w') _ ⟨0, _, _, _, ⟨(Nat.zero_le _), rfl⟩, ⟨rfl, rfl, rfl, rfl, rfl, rfl, rfl, rfl, rfl⟩, M⟩ ?_
 rintro _ ρ24 w23 ⟨i_, v_, cs_, N_, ⟨hi25, rfl⟩, hρ, M⟩
 obtain ⟨ρ24, rfl⟩ := hρ.know
 clear hρ
 have sl26 : IsSl v_ := SlAt.isSl (own_slAt (M.chunk 0 rfl).inv)
 refine wR (wP (vB (decide ((↑i_ : Int) < (↑n.kids.length : Int)))) (WL.nil (W.seq' ?_)))
 refine W.cond (t := decide ((↑i_ : Int) < (↑n.kids.length : Int))) rfl (fun h27 => ?_) (fun h27 => ?_)
 ·
  have h27p := of_decide_eq_true h27
  refine W.skip (W.seq' (W.block (wR ?_)))
  obtain ⟨cap29, hb28⟩ := SlAt.base (own_slAt (M.chunk 3 rfl).inv) (by omega)
  obtain ⟨x30, hx30⟩ := elem_of_lt (xs := n.kids) (i := i_) (by omega)
  obtain ⟨e, he_, hO2_⟩ := plOk_kid hO hn hx30
  refine wS (vQ dv6 i_ 2) rfl (sX i_ Tryz.un90 Tryz.el68 rfl rfl hb28) (wS (Value.agg #[(vI x30.at_), (vI x30.turn)]) rfl (Step.loadEN (k := 0) (cs' := [(vI x30.at_), (vI x30.turn)]) Tryz.ag68 (flat_ec (own_slAt (M.chunk 3 rfl).inv) hx30 handleE_len) (by decide) rfl rfl rfl) ?_)
  refine WL.alloc (c := #[(vI 0), (vI 0)]) M rfl Tryz.el68.zero rfl (fun b31 w32 hb31 M => ?_)
  refine WL.store (v := (Value.agg #[(vI x30.at_), (vI x30.turn)])) (cs := [(vI x30.at_), (vI x30.turn)]) (c' := #[(vI x30.at_), (vI x30.turn)]) M 0 rfl rfl Tryz.el68.sized rfl rfl rfl rfl (Nat.le_of_ble_eq_true rfl) (cel_cons rfl (cel_cons rfl cel_nil)) rfl rfl (fun w33 M => ?_)
  refine WL.nil (W.region rfl (wM (vP tb) (wM v_ (wS (Value.agg #[(vI x30.at_), (vI x30.turn)]) rfl (Step.loadN Tryz.ag68 rfl (M.blk 0 rfl) (Nat.le_of_ble_eq_true rfl) rfl) (wM (vI q) ?_)))))
  refine wS (vI (q + 1)) rfl (Step.add rfl rfl (wrap_i64 (by omega))) ?_
  have fq := M.frm [arenaC 107 112 S ab l, oP v_ cs_, rowsC 9 N_ 0 cs_ (ps ++ (⟨q, n.leaf, n.keys⟩ : TPl) :: kidsP d l n q i_)] [bk b31 #[(vI x30.at_), (vI x30.turn)] 68, oH dv6 n.kids] [3, 1, 2, 0, 4] rfl
  refine WL.callX rfl (ih e (by omega) tb ab r fu ln l S v_ cs_ N_ (ps ++ (⟨q, n.leaf, n.keys⟩ : TPl) :: kidsP d l n q i_) x30 (q + 1) (by assumption) (hO2_) (by omega) (by have h1_ := @kidsP_le l n d (i_ + 1) q; rw [kidsP_succ he_ hx30] at h1_; rw [placesT_all hn] at hb; simp only [List.length_append, List.length_cons] at h1_ hb ⊢; omega) (M.eF fq ⟨(M.rF fq 0 rfl), trivial⟩)) (CallsF.func Tryz.en32 rfl) ?_
  rintro v34 w37 ⟨_, cs35, N36, rfl, m⟩
  replace M := M.lF fq m
  clear m
  have sl38 : IsSl v34 := SlAt.isSl (own_slAt (Mem.chunk M 1 rfl).inv)
  have hle39 := SlAt.le' (own_slAt (Mem.chunk M 1 rfl).inv)
  refine wA v34 (WL.nil (W.region rfl (wS (vI (↑i_ + 1)) rfl (Step.add rfl rfl (wrap_i64 (by omega))) (wM (vI (↑i_ + 1)) (WL.nil ?_)))))
  replace M := M.rechunk 2 (c' := rowsC 9 N36 0 cs35 (ps ++ (⟨q, n.leaf, n.keys⟩ : TPl) :: kidsP d l n q (i_ + 1))) rfl (by rw [kidsP_succ he_ hx30, List.append_assoc, List.cons_append])
  replace M := M.sel (L' := [oP v34 cs35, rowsC 9 N36 0 cs35 (ps ++ (⟨q, n.leaf, n.keys⟩ : TPl) :: kidsP d l n q (i_ + 1)), arenaC 107 112 S ab l, oH dv6 n.kids]) [1, 2, 0, 4] rfl (by decide)
  exact ⟨_, (by omega), i_ + 1, v34, cs35, N36, ⟨(by omega), rfl⟩, ⟨rfl, rfl, rfl, rfl, rfl, rfl, rfl, rfl, rfl⟩, M⟩
 ·
  have h27p := of_decide_eq_false h27
  refine W.exit ?_
  refine thn_exit ?_
  refine thn_exit ?_
  refine inBlk_hit ?_
  refine wR (wM v_ (wA v_ (WL.nil ?_)))
  refine W.ret ?_
  refine ⟨.inl rfl, v_, ?_, ?_⟩
  · exact ⟨rfl, (Res.r1 (show RV _ _ _ (.tmp 8) v_ from by exact rfl))⟩
  have e40 : ps ++ placesT d l h q = ps ++ (⟨q, n.leaf, n.keys⟩ : TPl) :: kidsP d l n q i_ := by
   rw [placesT_all hn, show n.kids.length = i_ by omega]
  replace M := M.rechunk 1 (c' := rowsC 9 N_ 0 cs_ (ps ++ placesT d l h q)) rfl (congrArg (fun z => rowsC 9 N_ 0 cs_ z) e40.symm)
  refine ⟨v_, cs_, N_, ?_, M.close [2, 0, 1] rfl (by decide) trivial⟩
  rfl
end Go.Proofs
set_option maxRecDepth 100000
namespace Go.Proofs
open Go Tp
theorem Tryz.ag47 : Aggr Tryz.prog 47 3 := ⟨fun _ => by kernel_rfl, fun _ => by kernel_rfl⟩
theorem Tryz.en35 : Enters Tryz.prog 35 := fun _ _ => by kernel_rfl
theorem Tryz.en37 : Enters Tryz.prog 37 := fun _ _ => by kernel_rfl
theorem Tryz.en58 : Enters Tryz.prog 58 := fun _ _ => by kernel_rfl
theorem tr_Places {G X : Nat → Prop} {w : World} (tb ab : Nat) (rt : Handle) (fu : Bool) (ln : Int) (l : List RPlace) (S : Nat → Prop)  (hA : SmallA l) (d : Nat) (hPk : fu = true → plOk d l rt) (hd : d ≤ 900000) (hb : (plcL fu d l rt).length ≤ 1000000) (M : Mem G X w [arenaC 107 112 S ab l] [bF tb #[(vP ab), (vI rt.at_), (vI rt.turn), (vB fu), (vI ln)] 70] w) : Rets Tryz.prog 12 #[(vP tb)] w fun r w' => ∃ (v' : Value) (cs' : List PlC) (N' : Nat → Prop), r = v' ∧ Mem G X w [arenaC 107 112 S ab l, oP v' cs', rowsC 9 N' 0 cs' (plcL fu d l rt)] [] w' := by
 refine Rets.enter 18 _ Tryz.func12 rfl Tryz.ntmps12 Tryz.results12 (by simp) ?_
 refine wR (wA vZ (WL.nil (W.seq' (wR (wM (vP tb) ?_)))))
 refine wP (vB false) (wM (vB false) (wM (vP tb) (wP (vP tb) (wP (Value.pointer (some ⟨tb, 3, none⟩)) (wS (vB fu) rfl (Step.load1 Tryz.sc4 rfl ((cell_blk (M.rep 0 rfl) 3).trans rfl)) ?_)))))
 refine wP (vB !fu) (wS (vB !fu) rfl (Step.pick (t := false) rfl rfl) (WL.nil ?_))
 refine W.cond (t := !fu) rfl (fun h1 => ?_) (fun h1 => ?_)
 ·
  refine wR (wA vZ (WL.nil ?_))
  refine W.ret ?_
  refine ⟨.inl rfl, vZ, ?_, ?_⟩
  · exact ⟨rfl, (Res.r1 (show RV _ _ _ (.tmp 2) vZ from by exact rfl))⟩
  replace M := M.ownNil 47 3
  replace M := M.rowsNil 9
  have e2 : plcL fu d l rt = ([] : List TPl) := by
   simp [plcL, (by simpa using h1)]
  replace M := M.rechunk 0 (c' := rowsC 9 (fun _ => False) 0 ([] : List PlC) (plcL fu d l rt)) rfl (congrArg (fun z => rowsC 9 (fun _ => False) 0 ([] : List PlC) z) e2.symm)
  refine ⟨vZ, ([] : List PlC), (fun _ => False), ?_, M.close [2, 1, 0] rfl (by decide) trivial⟩
  rfl
 ·
  refine W.skip (wR (wM (vP tb) (wM (vP tb) (wP (vP tb) (wP (Value.pointer (some ⟨tb, 1, none⟩)) ?_)))))
  refine wS (Value.agg #[(vI rt.at_), (vI rt.turn)]) rfl (Step.loadN Tryz.ag68 rfl (M.rep 0 rfl) (Nat.le_of_ble_eq_true rfl) rfl) ?_
  replace M := M.ownNil 47 3
  replace M := M.rowsNil 9
  have fq := M.frm [arenaC 107 112 S ab l, oP vZ ([] : List PlC), rowsC 9 (fun _ => False) 0 ([] : List PlC) ([] : List TPl)] [] [2, 1, 0] rfl
  refine WL.callX rfl (tr_places d tb ab rt fu ln l S vZ ([] : List PlC) (fun _ => False) ([] : List TPl) rt 1 (by assumption) (hPk (by simpa using h1)) (by omega) (by simp only [List.length_nil]; rw [plcL, if_pos (by simpa using h1)] at hb; omega) (M.eF fq ⟨(M.rF fq 0 rfl), trivial⟩)) (CallsF.func Tryz.en32 rfl) ?_
  rintro v3 w6 ⟨_, cs4, N5, rfl, m⟩
  replace M := M.lF fq m
  clear m
  have sl7 : IsSl v3 := SlAt.isSl (own_slAt (Mem.chunk M 1 rfl).inv)
  have hle8 := SlAt.le' (own_slAt (Mem.chunk M 1 rfl).inv)
  refine wA v3 (WL.nil ?_)
  refine W.ret ?_
  refine ⟨.inl rfl, v3, ?_, ?_⟩
  · exact ⟨rfl, (Res.r1 (show RV _ _ _ (.tmp 2) v3 from by exact rfl))⟩
  have e9 : plcL fu d l rt = ([] : List TPl) ++ placesT d l rt 1 := by
   simp [plcL, (by simpa using h1)]
  replace M := M.rechunk 2 (c' := rowsC 9 N5 0 cs4 (plcL fu d l rt)) rfl (congrArg (fun z => rowsC 9 N5 0 cs4 z) e9.symm)
  refine ⟨v3, cs4, N5, ?_, M.close [0, 1, 2] rfl (by decide) trivial⟩
  rfl
theorem tr_Places0 {G : Nat → Prop} {w : World}    (M : Mem G (fun _ => False) w [] [] w) : Rets Tryz.prog 12 #[vN] w fun r w' => r = vZ ∧ Mem G (fun _ => False) w [] [] w' := by
 refine Rets.enter 18 _ Tryz.func12 rfl Tryz.ntmps12 Tryz.results12 (by simp) ?_
 refine wR (wA vZ (WL.nil (W.seq' (wR (wM vN ?_)))))
 refine wP (vB true) (wM (vB true) ?_)
 refine WL.pass rfl ?_
 refine WL.pass rfl ?_
 refine WL.pass rfl ?_
 refine WL.pass rfl ?_
 refine WL.pass rfl ?_
 refine wS (vB true) rfl (Step.pick (t := true) rfl rfl) (WL.nil ?_)
 refine W.cond (t := true) rfl (fun _ => ?_) (fun h => by cases h)
 refine wR (wA vZ (WL.nil ?_))
 refine W.ret ?_
 refine ⟨.inl rfl, vZ, ?_, ?_⟩
 · exact ⟨rfl, (Res.r1 (show RV _ _ _ (.tmp 2) vZ from by exact rfl))⟩
 refine ⟨?_, M.close [] rfl (by decide) trivial⟩
 rfl
theorem chk_leaf {G : Nat → Prop} {w : World} (p : PlC) (db : Nat) (deep : Int)  (hh : p.leaf = true → p.depth = deep) (M : Mem G (fun _ => False) w [] [bF db #[(vI deep)] 3] w) : Rets Tryz.prog 35 #[(Value.agg #[(vI p.depth), (vB p.leaf), p.kv.1]), (vP db)] w fun r w' => r = (vB false) ∧ Mem G (fun _ => False) w [] [] w' := by
 refine Rets.enter 12 _ Tryz.func35 rfl Tryz.ntmps35 Tryz.results35 (by simp) ?_
 refine wR ?_
 refine WL.box (v := (Value.agg #[(vI p.depth), (vB p.leaf), p.kv.1])) (c := #[(vI p.depth), (vB p.leaf), p.kv.1]) M rfl rfl rfl (fun b1 w2 hb1 M => ?_)
 refine wA (vB false) (WL.nil (wR (wP (Value.pointer (some ⟨b1, 1, none⟩)) (wS (vB p.leaf) rfl (Step.load1 Tryz.sc4 rfl ((M.cell 0 rfl 1).trans rfl)) (wM (vB p.leaf) ?_)))))
 rcases Bool.eq_false_or_eq_true (p.leaf) with h3 | h3
 ·
  rw [h3]
  refine wP (vP b1) (wS (vI p.depth) rfl (Step.load1 Tryz.sc3 rfl ((M.cell 0 rfl 0).trans rfl)) (wS (vI deep) rfl (Step.load1 Tryz.sc3 rfl ((cell_blk (M.rep 0 rfl) 0).trans rfl)) (wP (vB ((p.depth : Int) != (deep : Int))) (wS (vB ((p.depth : Int) != (deep : Int))) rfl (Step.pick (t := true) rfl rfl) (wA (vB ((p.depth : Int) != (deep : Int))) ?_)))))
  refine WL.nil ?_
  refine W.ret ?_
  refine ⟨.inl rfl, (vB ((p.depth : Int) != (deep : Int))), ?_, ?_⟩
  · exact ⟨rfl, (Res.r1 (show RV _ _ _ (.tmp 3) (vB ((p.depth : Int) != (deep : Int))) from by exact rfl))⟩
  refine ⟨?_, M.close [] rfl (by decide) trivial⟩
  refine congrArg Value.bool ?_
  first | rfl | (simp_all; done)
 ·
  rw [h3]
  refine WL.pass rfl ?_
  refine WL.pass rfl ?_
  refine WL.pass rfl ?_
  refine WL.pass rfl ?_
  refine wS (vB false) rfl (Step.pick (t := false) rfl rfl) (wA (vB false) (WL.nil ?_))
  refine W.ret ?_
  refine ⟨.inl rfl, (vB false), ?_, ?_⟩
  · exact ⟨rfl, (Res.r1 (show RV _ _ _ (.tmp 3) (vB false) from by exact rfl))⟩
  refine ⟨?_, M.close [] rfl (by decide) trivial⟩
  rfl
theorem chk_rise {G : Nat → Prop} {w : World} (a : THit) (b : THit)  (hh : sLt a.key b.key = false) (M : Mem G (fun _ => False) w [] [] w) : Rets Tryz.prog 37 #[(Value.agg #[(vS a.key), (vI a.val)]), (Value.agg #[(vS b.key), (vI b.val)])] w fun r w' => r = (vI 1) ∧ Mem G (fun _ => False) w [] [] w' := by
 refine Rets.enter 10 _ Tryz.func37 rfl Tryz.ntmps37 Tryz.results37 (by simp) ?_
 refine wR ?_
 refine WL.box (v := (Value.agg #[(vS a.key), (vI a.val)])) (c := #[(vS a.key), (vI a.val)]) M rfl rfl rfl (fun b1 w2 hb1 M => ?_)
 refine WL.box (v := (Value.agg #[(vS b.key), (vI b.val)])) (c := #[(vS b.key), (vI b.val)]) M rfl rfl rfl (fun b3 w4 hb3 M => ?_)
 refine wA (vI 0) (WL.nil (W.seq' (wR (wP (vP b1) (wS (vS a.key) rfl (Step.load1 Tryz.sc9 rfl ((M.cell 1 rfl 0).trans rfl)) ?_)))))
 refine wP (vP b3) (wS (vS b.key) rfl (Step.load1 Tryz.sc9 rfl ((M.cell 0 rfl 0).trans rfl)) (wP (vB (sLt a.key b.key)) (WL.nil ?_)))
 refine W.cond (t := sLt a.key b.key) rfl (fun h5 => ?_) (fun h5 => ?_)
 ·
  rw [hh] at h5; cases h5
 ·
  refine W.skip (wR (wA (vI 1) (WL.nil ?_)))
  refine W.ret ?_
  refine ⟨.inl rfl, (vI 1), ?_, ?_⟩
  · exact ⟨rfl, (Res.r1 (show RV _ _ _ (.tmp 4) (vI 1) from by exact rfl))⟩
  refine ⟨?_, M.close [] rfl (by decide) trivial⟩
  rfl
theorem is_sorted {G : Nat → Prop} {w : World} (v : Value) (xs : List THit)  (hu : upT xs) (M : Mem G (fun _ => False) w [] [fR v xs] w) : Rets Tryz.prog 36 #[v, (Value.func (.func 37) #[] #[])] w fun r w' => r = (vB true) ∧ Mem G (fun _ => False) w [] [] w' := by
 refine Rets.enter 25 _ Tryz.func36 rfl Tryz.ntmps36 Tryz.results36 (by simp) ?_
 have hle1 := SlAt.le' (M.rep 0 rfl)
 have sl2 : IsSl v := SlAt.isSl (Mem.rep M 0 rfl)
 refine wR (wA (vB false) (WL.nil (W.seq' (wR (wM v ?_)))))
 refine wS (vI ↑xs.length) rfl (Step.lenSl Tryz.un49 rfl (M.rep 0 rfl)) (wS (vI ((↑xs.length : Int) - 1)) rfl (Step.sub rfl rfl (wrap_i64 (by omega))) (wA (vI ((↑xs.length : Int) - 1)) (WL.nil (W.block ?_))))
 refine W.loop (fun kk ρ w' => ∃ (m_ : Nat), ((m_ ≤ xs.length) ∧ kk = m_ + 1) ∧ ρ.has [(0, v), (1, (Value.func (.func 37) #[] #[])), (5, (vI ((↑m_ : Int) - 1)))] ∧ Mem G (fun _ => False) w [] [fR v xs]  w') _ ⟨xs.length, ⟨(Nat.le_refl _), rfl⟩, ⟨rfl, rfl, rfl, rfl, rfl⟩, M⟩ ?_
 rintro _ ρ4 w3 ⟨m_, ⟨hi5, rfl⟩, hρ, M⟩
 obtain ⟨ρ4, rfl⟩ := hρ.know
 clear hρ
 refine W.seq' (wR (wM (vI ((↑m_ : Int) - 1)) (wP (vB (decide (((↑m_ : Int) - 1 : Int) > (0 : Int)))) (WL.nil ?_))))
 refine W.cond (t := decide (((↑m_ : Int) - 1 : Int) > (0 : Int))) rfl (fun h6 => ?_) (fun h6 => ?_)
 ·
  have h6p := of_decide_eq_true h6
  refine W.skip (W.seq' (W.block (W.seq' ?_)))
  obtain ⟨cap8, hb7⟩ := SlAt.base (M.rep 0 rfl) (by omega)
  obtain ⟨x9, hx9⟩ := elem_of_lt (xs := xs) (i := m_ - 1) (by omega)
  obtain ⟨x10, hx10⟩ := elem_of_lt (xs := xs) (i := m_ - 1 - 1) (by omega)
  refine W.drawn M [0, 1, 2, 3, 4, 5, 6, 7, 8, 9, 10, 11] [10] [] _ _ sE (fun _ h => h) Tryz.mixed (by kernel_rfl) ?_
  refine tP (Value.func (.func 37) #[] #[]) rfl (fun w => (Step.move rfl)) ?_
  refine tP v rfl (fun w => (Step.move rfl)) ?_
  refine tP (vI ((↑m_ : Int) - 1)) rfl (fun w => (Step.move rfl)) ?_
  refine tP (vQ v (m_ - 1) 2) rfl (fun w => (sX (m_ - 1) Tryz.un49 Tryz.el55 rfl rfl hb7)) ?_
  refine tR (Value.agg #[(vS x9.key), (vI x9.val)]) rfl (fun A w M => (Step.loadEN (k := 0) (cs' := [(vS x9.key), (vI x9.val)]) Tryz.ag55 (flat_ec (M.rep 0 rfl) hx9 hitE_len) (by decide) rfl rfl rfl)) ?_
  refine tP v rfl (fun w => (Step.move rfl)) ?_
  refine tP (vI ((↑m_ : Int) - 1)) rfl (fun w => (Step.move rfl)) ?_
  refine tP (vI ((↑(m_ - 1) : Int) - 1)) rfl (fun w => (Step.cast (congrArg (Value.int .i64) (by omega)) (Step.sub rfl rfl (wrap_i64 (by omega))))) ?_
  refine tP (vQ v (m_ - 1 - 1) 2) rfl (fun w => (sX (m_ - 1 - 1) Tryz.un49 Tryz.el55 rfl rfl hb7)) ?_
  refine tR (Value.agg #[(vS x10.key), (vI x10.val)]) rfl (fun A w M => (Step.loadEN (k := 0) (cs' := [(vS x10.key), (vI x10.val)]) Tryz.ag55 (flat_ec (M.rep 0 rfl) hx10 hitE_len) (by decide) rfl rfl rfl)) ?_
  refine TW.callX (ι := Unit) (fun jx v_ => v_ = (vI 1)) (fun jx => []) (fun jx => [fR v xs]) rfl (by decide) rfl (fun jx => sE) (fun jx r h => h) (fun A w M => Rets.mono (chk_rise x9 x10 (up_not hu hx10 hx9 (by omega)) (M.enterW0 trivial)) (fun v_ w_ ⟨e_, m⟩ => ⟨(), e_, (M.leaveW0 m).sel [0] rfl (by decide), fun b hb => M.k0F m b hb⟩)) (fun w => CallsF.value Tryz.en37 rfl rfl rfl) (fun jx v hp hin => ?_)
  replace hp := hp.symm; subst hp
  clear hin
  refine tP (vB false) rfl (fun w => sP) ?_
  refine TW.done (fun w11 M => ?_)
  refine W.cond (t := false) rfl (fun h => by cases h) (fun _ => ?_)
  refine W.skip (W.region rfl (wM (vI ((↑m_ : Int) - 1)) (wS (vI ((↑(m_ - 1) : Int) - 1)) rfl (Step.cast (congrArg (Value.int .i64) (by omega)) (Step.sub rfl rfl (wrap_i64 (by omega)))) (wS (vI ((↑(m_ - 1) : Int) - 1)) rfl (Step.cast (congrArg (Value.int .i64) (by omega)) (Step.assign rfl)) (WL.nil ?_)))))
  exact ⟨_, (by omega), m_ - 1, ⟨(by omega), rfl⟩, ⟨rfl, rfl, rfl, rfl, rfl⟩, M⟩
 ·
  have h6p := of_decide_eq_false h6
  refine W.exit ?_
  refine thn_exit ?_
  refine thn_exit ?_
  refine inBlk_hit ?_
  refine wR (wA (vB true) (WL.nil ?_))
  refine W.ret ?_
  refine ⟨.inl rfl, (vB true), ?_, ?_⟩
  · exact ⟨rfl, (Res.r1 (show RV _ _ _ (.tmp 4) (vB true) from by exact rfl))⟩
  refine ⟨?_, M.close [] rfl (by decide) trivial⟩
  rfl
theorem index_pl {G : Nat → Prop} {w : World} (v : Value) (xs : List PlC) (db : Nat) (deep : Int)  (hnl : ∀ x : PlC, x ∈ xs → x.leaf = true → x.depth = deep) (M : Mem G (fun _ => False) w [] [fP v xs, bF db #[(vI deep)] 3] w) : Rets Tryz.prog 58 #[v, (Value.func (.func 35) #[] #[(vP db)])] w fun r w' => r = (vI (-1)) ∧ Mem G (fun _ => False) w [] [] w' := by
 refine Rets.enter 19 _ Tryz.func58 rfl Tryz.ntmps58 Tryz.results58 (by simp) ?_
 have hle1 := SlAt.le' (M.rep 0 rfl)
 have sl2 : IsSl v := SlAt.isSl (Mem.rep M 0 rfl)
 refine wR (wA (vI 0) (WL.nil (W.seq' (wR (wM v ?_)))))
 refine wS (vI ↑xs.length) rfl (Step.lenSl Tryz.un38 rfl (M.rep 0 rfl)) (wM (vI 0) (WL.nil (W.block ?_)))
 refine W.loop (fun kk ρ w' => ∃ (i_ : Nat), ((i_ ≤ xs.length) ∧ kk = xs.length - i_) ∧ ρ.has [(0, v), (1, (Value.func (.func 35) #[] #[(vP db)])), (7, (vI ↑xs.length)), (8, (vI ↑i_))] ∧ Mem G (fun _ => False) w [] [fP v xs, bF db #[(vI deep)] 3]  w') _ ⟨0, ⟨(Nat.zero_le _), rfl⟩, ⟨rfl, rfl, rfl, rfl, rfl, rfl⟩, M⟩ ?_
 rintro _ ρ4 w3 ⟨i_, ⟨hi5, rfl⟩, hρ, M⟩
 obtain ⟨ρ4, rfl⟩ := hρ.know
 clear hρ
 refine wR (wP (vB (decide ((↑i_ : Int) < (↑xs.length : Int)))) (WL.nil (W.seq' ?_)))
 refine W.cond (t := decide ((↑i_ : Int) < (↑xs.length : Int))) rfl (fun h6 => ?_) (fun h6 => ?_)
 ·
  have h6p := of_decide_eq_true h6
  refine W.skip (W.seq' (W.block (wR (wM (vI ↑i_) (wA (vI ↑i_) ?_)))))
  refine WL.nil (wR (wM (Value.func (.func 35) #[] #[(vP db)]) (wM v (wM (vI ↑i_) ?_))))
  obtain ⟨cap8, hb7⟩ := SlAt.base (M.rep 0 rfl) (by omega)
  obtain ⟨x9, hx9⟩ := elem_of_lt (xs := xs) (i := i_) (by omega)
  refine wS (vQ v i_ 3) rfl (sX i_ Tryz.un38 Tryz.el47 rfl rfl hb7) (wS (Value.agg #[(vI x9.depth), (vB x9.leaf), x9.kv.1]) rfl (Step.loadEN (k := 0) (cs' := [(vI x9.depth), (vB x9.leaf), x9.kv.1]) Tryz.ag47 (flat_ec (M.rep 0 rfl) hx9 plcE_len) (by decide) rfl rfl rfl) ?_)
  refine WL.callX rfl (chk_leaf x9 db deep (hnl _ (List.mem_of_getElem? hx9)) (M.enterW0 ⟨(M.wideR0 1 rfl), trivial⟩)) (CallsF.value Tryz.en35 rfl rfl rfl) ?_
  rintro _ w10 ⟨rfl, m⟩
  replace M := M.leaveW0 m
  clear m
  refine WL.nil ?_
  refine W.cond (t := false) rfl (fun h => by cases h) (fun _ => ?_)
  refine W.skip (W.region rfl (wS (vI (↑i_ + 1)) rfl (Step.add rfl rfl (wrap_i64 (by omega))) (wM (vI (↑i_ + 1)) (WL.nil ?_))))
  exact ⟨_, (by omega), i_ + 1, ⟨(by omega), rfl⟩, ⟨rfl, rfl, rfl, rfl, rfl, rfl⟩, M⟩
 ·
  have h6p := of_decide_eq_false h6
  refine W.exit ?_
  refine thn_exit ?_
  refine thn_exit ?_
  refine inBlk_hit ?_
  refine wR (wA (vI (-1)) (WL.nil ?_))
  refine W.ret ?_
  refine ⟨.inl rfl, (vI (-1)), ?_, ?_⟩
  · exact ⟨rfl, (Res.r1 (show RV _ _ _ (.tmp 4) (vI (-1)) from by exact rfl))⟩
  refine ⟨?_, M.close [] rfl (by decide) trivial⟩
  rfl
theorem contains_pl {G : Nat → Prop} {w : World} (v : Value) (xs : List PlC) (db : Nat) (deep : Int)  (hnl : ∀ x : PlC, x ∈ xs → x.leaf = true → x.depth = deep) (M : Mem G (fun _ => False) w [] [fP v xs, bF db #[(vI deep)] 3] w) : Rets Tryz.prog 34 #[v, (Value.func (.func 35) #[] #[(vP db)])] w fun r w' => r = (vB false) ∧ Mem G (fun _ => False) w [] [] w' := by
 refine Rets.enter 9 _ Tryz.func34 rfl Tryz.ntmps34 Tryz.results34 (by simp) ?_
 have hle1 := SlAt.le' (M.rep 0 rfl)
 have sl2 : IsSl v := SlAt.isSl (Mem.rep M 0 rfl)
 refine wR (wA (vB false) (WL.nil (wR (wM v (wM (Value.func (.func 35) #[] #[(vP db)]) ?_)))))
 refine WL.callX rfl (index_pl v xs db deep (by assumption) (M.enterW0 ⟨(M.wideR0 0 rfl), (M.wideR0 1 rfl), trivial⟩)) (CallsF.func Tryz.en58 rfl) ?_
 rintro _ w3 ⟨rfl, m⟩
 replace M := M.leaveW0 m
 clear m
 refine wP (vB false) (wA (vB false) (WL.nil ?_))
 refine W.ret ?_
 refine ⟨.inl rfl, (vB false), ?_, ?_⟩
 · exact ⟨rfl, (Res.r1 (show RV _ _ _ (.tmp 4) (vB false) from by exact rfl))⟩
 refine ⟨?_, M.close [] rfl (by decide) trivial⟩
 rfl
end Go.Proofs
set_option maxRecDepth 100000
namespace Go.Proofs
open Go Tp
theorem Tryz.en12 : Enters Tryz.prog 12 := fun _ _ => by kernel_rfl
theorem Tryz.en18 : Enters Tryz.prog 18 := fun _ _ => by kernel_rfl
theorem Tryz.en33 : Enters Tryz.prog 33 := fun _ _ => by kernel_rfl
theorem Tryz.en34 : Enters Tryz.prog 34 := fun _ _ => by kernel_rfl
theorem Tryz.en36 : Enters Tryz.prog 36 := fun _ _ => by kernel_rfl
theorem tr_check {G X : Nat → Prop} {w : World} (tb ab : Nat) (rt : Handle) (fu : Bool) (ln : Int) (l : List RPlace) (S : Nat → Prop)  (hA : SmallA l) (d : Nat) (hLk : fu = true → lookOk d l rt) (hPk : fu = true → plOk d l rt) (hd : d ≤ 900000) (hb : (plcL fu d l rt).length ≤ 1000000) (row : List THit) (D : Nat) (hP : PlcOk row (plcL fu d l rt) D) (hD : D ≤ 900000) (hup : upT (allL fu d l rt)) (hln : ((allL fu d l rt).length : Int) = ln) (hlb : ln ≤ 1000000) (hus : usedN l = (plcL fu d l rt).length) (M : Mem G X w [arenaC 107 112 S ab l] [bF tb #[(vP ab), (vI rt.at_), (vI rt.turn), (vB fu), (vI ln)] 70] w) : Rets Tryz.prog 13 #[(vP tb)] w fun r w' => r = (vI 0) ∧ Mem G X w [arenaC 107 112 S ab l] [] w' := by
 refine Rets.enter 87 _ Tryz.func13 rfl Tryz.ntmps13 Tryz.results13 (by simp) ?_
 refine wR (wA (vI 0) (WL.nil (W.seq' (wR (wM (vP tb) ?_)))))
 refine wP (vB false) (WL.nil ?_)
 refine W.cond (t := false) rfl (fun h => by cases h) (fun _ => ?_)
 refine W.skip (wR (wM (vP tb) (wP (vP tb) (wP (vP tb) (wS (vP ab) rfl (Step.load1 Tryz.sc65 rfl ((cell_blk (M.rep 0 rfl) 0).trans rfl)) ?_)))))
 have fq := M.frm [arenaC 107 112 S ab l] [] [0] rfl
 refine WL.callX rfl (ar_len ab l S (M.eF fq trivial)) (CallsF.func Tryz.en33 rfl) ?_
 rintro _ w1 ⟨rfl, m⟩
 replace M := M.lF fq m
 clear m
 refine wM (Value.tuple #[(vI (↑(usedN l))), (vI ↑l.length)]) (wP (vI (↑(usedN l))) (wP (vI ↑l.length) (wA (vI (↑(usedN l))) (wA (vI ↑l.length) (WL.nil ?_)))))
 refine wR (wM (vP tb) ?_)
 have fq := M.frm [arenaC 107 112 S ab l] [] [0] rfl
 refine WL.callX rfl (tr_Places tb ab rt fu ln l S (by assumption) d (by assumption) (by assumption) (by assumption) (M.eF fq ⟨(M.rF fq 0 rfl), trivial⟩)) (CallsF.func Tryz.en12 rfl) ?_
 rintro v2 w5 ⟨_, cs3, N4, rfl, m⟩
 replace M := M.lF fq m
 clear m
 have sl6 : IsSl v2 := SlAt.isSl (own_slAt (Mem.chunk M 1 rfl).inv)
 have hle7 := SlAt.le' (own_slAt (Mem.chunk M 1 rfl).inv)
 refine wA v2 (WL.nil (wR ?_))
 refine WL.alloc (c := #[(vI 0)]) M rfl Tryz.el3.zero rfl (fun b8 w9 hb8 M => ?_)
 refine WL.store (v := (vI 0)) (cs := [(vI 0)]) (c' := #[(vI 0)]) M 0 rfl rfl Tryz.el3.sized rfl rfl rfl rfl (Nat.le_of_ble_eq_true rfl) (cel_cons rfl cel_nil) rfl rfl (fun w10 M => ?_)
 refine WL.nil (W.seq' (wR (wM v2 (wS (vI ↑cs3.length) rfl (Step.lenSl Tryz.un38 rfl (own_slAt (M.chunk 2 rfl).inv)) (wM (vI 0) ?_)))))
 refine WL.nil (W.block ?_)
 replace M := M.sel (L' := [bk b8 #[(vI 0)] 3, arenaC 107 112 S ab l, oP v2 cs3, rowsC 9 N4 0 cs3 (plcL fu d l rt)]) [0, 1, 2, 3] rfl (by decide)
 refine W.loop (fun kk ρ w' => ∃ (i_ : Nat) (D_ : Int), ((i_ ≤ cs3.length) ∧ (D_ = 0 ∨ D_ = (D : Int)) ∧ (∀ (j : Nat) (p : TPl), j < i_ → (plcL fu d l rt)[j]? = some p → p.leaf = true → D_ = (D : Int)) ∧ kk = cs3.length - i_) ∧ ρ.has [(0, (vP tb)), (3, (vI (↑(usedN l)))), (5, v2), (6, (vP b8)), (24, v2), (25, (vI ↑cs3.length)), (26, (vI ↑i_))] ∧ Mem G X w [bk b8 #[(vI D_)] 3, arenaC 107 112 S ab l, oP v2 cs3, rowsC 9 N4 0 cs3 (plcL fu d l rt)] [bF tb #[(vP ab), (vI rt.at_), (vI rt.turn), (vB fu), (vI ln)] 70]  w') _ ⟨0, 0, ⟨(Nat.zero_le _), (.inl rfl), (fun _ _ h => absurd h (Nat.not_lt_zero _)), rfl⟩, ⟨rfl, rfl, rfl, rfl, rfl, rfl, rfl, rfl, rfl⟩, M⟩ ?_
 rintro _ ρ12 w11 ⟨i_, D_, ⟨hi13, hi14, hi15, rfl⟩, hρ, M⟩
 obtain ⟨ρ12, rfl⟩ := hρ.know
 clear hρ
 obtain ⟨hc1_, hc2_, hc3_⟩ := (⟨hi13, hi14, hi15⟩ : i_ ≤ cs3.length ∧ (D_ = 0 ∨ D_ = (D : Int)) ∧ ∀ (j : Nat) (p : TPl), j < i_ → (plcL fu d l rt)[j]? = some p → p.leaf = true → D_ = (D : Int))
 refine wR (wP (vB (decide ((↑i_ : Int) < (↑cs3.length : Int)))) (WL.nil (W.seq' ?_)))
 refine W.cond (t := decide ((↑i_ : Int) < (↑cs3.length : Int))) rfl (fun h16 => ?_) (fun h16 => ?_)
 ·
  have h16p := of_decide_eq_true h16
  refine W.skip (W.seq' (W.block (wR (wM (vI ↑i_) ?_))))
  obtain ⟨cap18, hb17⟩ := SlAt.base (own_slAt (M.chunk 2 rfl).inv) (by omega)
  obtain ⟨x19, hx19⟩ := elem_of_lt (xs := cs3) (i := i_) (by omega)
  obtain ⟨p_, hp_, hdp_, hlp_, hsp_⟩ := rows_at (M.chunk 3 rfl).inv hx19
  have hsh_ := SlAt.shp (hsp_ (Nat.zero_le _))
  obtain ⟨hk1_, hk4_, hk2_⟩ := hP.keys _ _ hp_
  refine wS (vQ v2 i_ 3) rfl (sX i_ Tryz.un38 Tryz.el47 rfl rfl hb17) (wS (Value.agg #[(vI x19.depth), (vB x19.leaf), x19.kv.1]) rfl (Step.loadEN (k := 0) (cs' := [(vI x19.depth), (vB x19.leaf), x19.kv.1]) Tryz.ag47 (flat_ec (own_slAt (M.chunk 2 rfl).inv) hx19 plcE_len) (by decide) rfl rfl rfl) ?_)
  refine WL.alloc (c := #[(vI 0), (vB false), vZ]) M rfl Tryz.el47.zero rfl (fun b20 w21 hb20 M => ?_)
  refine wA (vI ↑i_) ?_
  refine WL.store (v := (Value.agg #[(vI x19.depth), (vB x19.leaf), x19.kv.1])) (cs := [(vI x19.depth), (vB x19.leaf), x19.kv.1]) (c' := #[(vI x19.depth), (vB x19.leaf), x19.kv.1]) M 0 rfl rfl Tryz.el47.sized rfl rfl rfl rfl (Nat.le_of_ble_eq_true rfl) (cel_cons rfl (cel_cons rfl (cel_cons (IsSl.cel x19.kv.2) cel_nil))) rfl rfl (fun w22 M => ?_)
  refine WL.nil (W.seq' (wR (wP (Value.pointer (some ⟨b20, 1, none⟩)) (wS (vB x19.leaf) rfl (Step.load1 Tryz.sc4 rfl ((M.cell 0 rfl 1).trans rfl)) (WL.nil ?_)))))
  refine W.cond (t := x19.leaf) rfl (fun h23 => ?_) (fun h23 => ?_)
  ·
   refine W.region rfl (wS (vI D_) rfl (Step.load1 Tryz.sc3 rfl ((M.cell 1 rfl 0).trans rfl)) (wP (vP b20) (wS (vI x19.depth) rfl (Step.load1 Tryz.sc3 rfl ((M.cell 0 rfl 0).trans rfl)) (wS (vI (max (D_ : Int) (x19.depth : Int))) rfl (Step.maxI rfl rfl) ?_))))
   refine WL.store (v := (vI (max (D_ : Int) (x19.depth : Int)))) (cs := [(vI (max (D_ : Int) (x19.depth : Int)))]) (c' := #[(vI (max (D_ : Int) (x19.depth : Int)))]) M 1 rfl rfl Tryz.el3.sized rfl rfl rfl rfl (Nat.le_of_ble_eq_true rfl) (cel_cons rfl cel_nil) rfl rfl (fun w24 M => ?_)
   refine WL.nil (wR (wP (Value.pointer (some ⟨b20, 2, none⟩)) (wS x19.kv.1 rfl (Step.load1 Tryz.sc23 rfl ((M.cell 0 rfl 2).trans rfl)) (wS (vI ↑p_.keys.length) rfl (Step.lenP Tryz.un23 rfl hsh_) (wP (vB (decide ((↑p_.keys.length : Int) > (4 : Int)))) ?_)))))
   refine wM (vB (decide ((↑p_.keys.length : Int) > (4 : Int)))) ?_
   rcases Bool.eq_false_or_eq_true (decide ((↑p_.keys.length : Int) > (4 : Int))) with h25 | h25
   ·
    have h25p := of_decide_eq_true h25
    omega
   ·
    have h25p := of_decide_eq_false h25
    rw [h25]
    refine wP (Value.pointer (some ⟨b20, 2, none⟩)) (wS x19.kv.1 rfl (Step.load1 Tryz.sc23 rfl ((M.cell 0 rfl 2).trans rfl)) (wS (vI ↑p_.keys.length) rfl (Step.lenP Tryz.un23 rfl hsh_) (wP (vB (decide ((↑p_.keys.length : Int) < (2 : Int)))) (wM (vB (decide ((↑p_.keys.length : Int) < (2 : Int)))) ?_))))
    rcases Bool.eq_false_or_eq_true (decide ((↑p_.keys.length : Int) < (2 : Int))) with h26 | h26
    ·
     have h26p := of_decide_eq_true h26
     rw [h26]
     refine wM (vI ↑i_) (wP (vB (decide ((↑i_ : Int) > (0 : Int)))) (wS (vB (decide ((↑i_ : Int) > (0 : Int)))) rfl (Step.pick (t := true) rfl rfl) (wS (vB (decide ((↑i_ : Int) > (0 : Int)))) rfl (Step.pick (t := false) rfl rfl) (wM (vB (decide ((↑i_ : Int) > (0 : Int)))) ?_))))
     rcases Bool.eq_false_or_eq_true (decide ((↑i_ : Int) > (0 : Int))) with h27 | h27
     ·
      have h27p := of_decide_eq_true h27
      omega
     ·
      have h27p := of_decide_eq_false h27
      rw [h27]
      refine wP (Value.pointer (some ⟨b20, 2, none⟩)) (wS x19.kv.1 rfl (Step.load1 Tryz.sc23 rfl ((M.cell 0 rfl 2).trans rfl)) (wS (vI ↑p_.keys.length) rfl (Step.lenP Tryz.un23 rfl hsh_) (wP (vB ((↑p_.keys.length : Int) == (0 : Int))) (wS (vB ((↑p_.keys.length : Int) == (0 : Int))) rfl (Step.pick (t := false) rfl rfl) (WL.nil ?_)))))
      refine W.cond (t := (↑p_.keys.length : Int) == (0 : Int)) rfl (fun h28 => ?_) (fun h28 => ?_)
      ·
       have h28p : (↑p_.keys.length : Int) = (0 : Int) := by simpa using h28
       omega
      ·
       have h28p : ¬ (↑p_.keys.length : Int) = (0 : Int) := by simpa using h28
       refine W.skip (W.region rfl (wS (vI (↑i_ + 1)) rfl (Step.add rfl rfl (wrap_i64 (by omega))) (wM (vI (↑i_ + 1)) (WL.nil ?_))))
       have hlf_ : p_.leaf = true := by rw [← hlp_]; exact h23
       have hDp_ := hP.leaf p_ (List.mem_of_getElem? hp_) hlf_
       have hmx_ : max (D_ : Int) (x19.depth : Int) = (D : Int) := by rcases hc2_ with h_ | h_ <;> omega
       replace M := M.rechunk 1 (c' := bk b8 #[(vI (D : Int))] 3) rfl (by rw [hmx_])
       replace M := M.sel (L' := [bk b8 #[(vI (D : Int))] 3, arenaC 107 112 S ab l, oP v2 cs3, rowsC 9 N4 0 cs3 (plcL fu d l rt)]) [1, 2, 3, 4] rfl (by decide)
       exact ⟨_, (by omega), i_ + 1, (D : Int), ⟨(by omega), (.inr rfl), (fun _ _ _ _ _ => rfl), rfl⟩, ⟨rfl, rfl, rfl, rfl, rfl, rfl, rfl, rfl, rfl⟩, M⟩
    ·
     have h26p := of_decide_eq_false h26
     rw [h26]
     refine WL.pass rfl ?_
     refine WL.pass rfl ?_
     refine wS (vB false) rfl (Step.pick (t := false) rfl rfl) (wS (vB false) rfl (Step.pick (t := false) rfl rfl) (wM (vB false) (wP (Value.pointer (some ⟨b20, 2, none⟩)) (wS x19.kv.1 rfl (Step.load1 Tryz.sc23 rfl ((M.cell 0 rfl 2).trans rfl)) (wS (vI ↑p_.keys.length) rfl (Step.lenP Tryz.un23 rfl hsh_) ?_)))))
     refine wP (vB ((↑p_.keys.length : Int) == (0 : Int))) (wS (vB ((↑p_.keys.length : Int) == (0 : Int))) rfl (Step.pick (t := false) rfl rfl) (WL.nil ?_))
     refine W.cond (t := (↑p_.keys.length : Int) == (0 : Int)) rfl (fun h29 => ?_) (fun h29 => ?_)
     ·
      have h29p : (↑p_.keys.length : Int) = (0 : Int) := by simpa using h29
      omega
     ·
      have h29p : ¬ (↑p_.keys.length : Int) = (0 : Int) := by simpa using h29
      refine W.skip (W.region rfl (wS (vI (↑i_ + 1)) rfl (Step.add rfl rfl (wrap_i64 (by omega))) (wM (vI (↑i_ + 1)) (WL.nil ?_))))
      have hlf_ : p_.leaf = true := by rw [← hlp_]; exact h23
      have hDp_ := hP.leaf p_ (List.mem_of_getElem? hp_) hlf_
      have hmx_ : max (D_ : Int) (x19.depth : Int) = (D : Int) := by rcases hc2_ with h_ | h_ <;> omega
      replace M := M.rechunk 1 (c' := bk b8 #[(vI (D : Int))] 3) rfl (by rw [hmx_])
      replace M := M.sel (L' := [bk b8 #[(vI (D : Int))] 3, arenaC 107 112 S ab l, oP v2 cs3, rowsC 9 N4 0 cs3 (plcL fu d l rt)]) [1, 2, 3, 4] rfl (by decide)
      exact ⟨_, (by omega), i_ + 1, (D : Int), ⟨(by omega), (.inr rfl), (fun _ _ _ _ _ => rfl), rfl⟩, ⟨rfl, rfl, rfl, rfl, rfl, rfl, rfl, rfl, rfl⟩, M⟩
  ·
   refine W.skip (wR (wP (Value.pointer (some ⟨b20, 2, none⟩)) (wS x19.kv.1 rfl (Step.load1 Tryz.sc23 rfl ((M.cell 0 rfl 2).trans rfl)) (wS (vI ↑p_.keys.length) rfl (Step.lenP Tryz.un23 rfl hsh_) (wP (vB (decide ((↑p_.keys.length : Int) > (4 : Int)))) ?_)))))
   refine wM (vB (decide ((↑p_.keys.length : Int) > (4 : Int)))) ?_
   rcases Bool.eq_false_or_eq_true (decide ((↑p_.keys.length : Int) > (4 : Int))) with h30 | h30
   ·
    have h30p := of_decide_eq_true h30
    omega
   ·
    have h30p := of_decide_eq_false h30
    rw [h30]
    refine wP (Value.pointer (some ⟨b20, 2, none⟩)) (wS x19.kv.1 rfl (Step.load1 Tryz.sc23 rfl ((M.cell 0 rfl 2).trans rfl)) (wS (vI ↑p_.keys.length) rfl (Step.lenP Tryz.un23 rfl hsh_) (wP (vB (decide ((↑p_.keys.length : Int) < (2 : Int)))) (wM (vB (decide ((↑p_.keys.length : Int) < (2 : Int)))) ?_))))
    rcases Bool.eq_false_or_eq_true (decide ((↑p_.keys.length : Int) < (2 : Int))) with h31 | h31
    ·
     have h31p := of_decide_eq_true h31
     rw [h31]
     refine wM (vI ↑i_) (wP (vB (decide ((↑i_ : Int) > (0 : Int)))) (wS (vB (decide ((↑i_ : Int) > (0 : Int)))) rfl (Step.pick (t := true) rfl rfl) (wS (vB (decide ((↑i_ : Int) > (0 : Int)))) rfl (Step.pick (t := false) rfl rfl) (wM (vB (decide ((↑i_ : Int) > (0 : Int)))) ?_))))
     rcases Bool.eq_false_or_eq_true (decide ((↑i_ : Int) > (0 : Int))) with h32 | h32
     ·
      have h32p := of_decide_eq_true h32
      omega
     ·
      have h32p := of_decide_eq_false h32
      rw [h32]
      refine wP (Value.pointer (some ⟨b20, 2, none⟩)) (wS x19.kv.1 rfl (Step.load1 Tryz.sc23 rfl ((M.cell 0 rfl 2).trans rfl)) (wS (vI ↑p_.keys.length) rfl (Step.lenP Tryz.un23 rfl hsh_) (wP (vB ((↑p_.keys.length : Int) == (0 : Int))) (wS (vB ((↑p_.keys.length : Int) == (0 : Int))) rfl (Step.pick (t := false) rfl rfl) (WL.nil ?_)))))
      refine W.cond (t := (↑p_.keys.length : Int) == (0 : Int)) rfl (fun h33 => ?_) (fun h33 => ?_)
      ·
       have h33p : (↑p_.keys.length : Int) = (0 : Int) := by simpa using h33
       omega
      ·
       have h33p : ¬ (↑p_.keys.length : Int) = (0 : Int) := by simpa using h33
       refine W.skip (W.region rfl (wS (vI (↑i_ + 1)) rfl (Step.add rfl rfl (wrap_i64 (by omega))) (wM (vI (↑i_ + 1)) (WL.nil ?_))))
       replace M := M.sel (L' := [bk b8 #[(vI D_)] 3, arenaC 107 112 S ab l, oP v2 cs3, rowsC 9 N4 0 cs3 (plcL fu d l rt)]) [1, 2, 3, 4] rfl (by decide)
       exact ⟨_, (by omega), i_ + 1, D_, ⟨(by omega), hc2_, (fun j p hj hp hl => (Nat.lt_succ_iff_lt_or_eq.1 hj).elim (fun h => hc3_ j p h hp hl) fun h => by subst h; rw [hp_] at hp; cases hp; rw [← hlp_, h23] at hl; cases hl), rfl⟩, ⟨rfl, rfl, rfl, rfl, rfl, rfl, rfl, rfl, rfl⟩, M⟩
    ·
     have h31p := of_decide_eq_false h31
     rw [h31]
     refine WL.pass rfl ?_
     refine WL.pass rfl ?_
     refine wS (vB false) rfl (Step.pick (t := false) rfl rfl) (wS (vB false) rfl (Step.pick (t := false) rfl rfl) (wM (vB false) (wP (Value.pointer (some ⟨b20, 2, none⟩)) (wS x19.kv.1 rfl (Step.load1 Tryz.sc23 rfl ((M.cell 0 rfl 2).trans rfl)) (wS (vI ↑p_.keys.length) rfl (Step.lenP Tryz.un23 rfl hsh_) ?_)))))
     refine wP (vB ((↑p_.keys.length : Int) == (0 : Int))) (wS (vB ((↑p_.keys.length : Int) == (0 : Int))) rfl (Step.pick (t := false) rfl rfl) (WL.nil ?_))
     refine W.cond (t := (↑p_.keys.length : Int) == (0 : Int)) rfl (fun h34 => ?_) (fun h34 => ?_)
     ·
      have h34p : (↑p_.keys.length : Int) = (0 : Int) := by simpa using h34
      omega
     ·
      have h34p : ¬ (↑p_.keys.length : Int) = (0 : Int) := by simpa using h34
      refine W.skip (W.region rfl (wS (vI (↑i_ + 1)) rfl (Step.add rfl rfl (wrap_i64 (by omega))) (wM (vI (↑i_ + 1)) (WL.nil ?_))))
      replace M := M.sel (L' := [bk b8 #[(vI D_)] 3, arenaC 107 112 S ab l, oP v2 cs3, rowsC 9 N4 0 cs3 (plcL fu d l rt)]) [1, 2, 3, 4] rfl (by decide)
      exact ⟨_, (by omega), i_ + 1, D_, ⟨(by omega), hc2_, (fun j p hj hp hl => (Nat.lt_succ_iff_lt_or_eq.1 hj).elim (fun h => hc3_ j p h hp hl) fun h => by subst h; rw [hp_] at hp; cases hp; rw [← hlp_, h23] at hl; cases hl), rfl⟩, ⟨rfl, rfl, rfl, rfl, rfl, rfl, rfl, rfl, rfl⟩, M⟩
 ·
  have h16p := of_decide_eq_false h16
  refine W.exit ?_
  refine thn_exit ?_
  refine thn_exit ?_
  refine inBlk_hit ?_
  refine W.seq' ?_
  have hcl_ := rows_len (M.chunk 3 rfl).inv
  have hnl_ : ∀ x : PlC, x ∈ cs3 → x.leaf = true → x.depth = D_ := by
    intro x hx hl
    obtain ⟨j, hj⟩ := List.getElem?_of_mem hx
    have hjl := (List.getElem?_eq_some_iff.1 hj).1
    obtain ⟨p, hp, h1, h2, _⟩ := rows_at (M.chunk 3 rfl).inv hj
    rw [h1, hc3_ j p (by omega) hp (h2 ▸ hl)]
    exact hP.leaf p (List.mem_of_getElem? hp) (h2 ▸ hl)
  refine W.region rfl (wM v2 (wP (Value.func (.func 35) #[] #[(vP b8)]) ?_))
  refine WL.callX rfl (contains_pl v2 cs3 b8 D_ (by assumption) (M.enterW0 ⟨((M.wideC0 2 rfl).imp fun _ h => own_slAt h), (M.wideC0 0 rfl), trivial⟩)) (CallsF.func Tryz.en34 rfl) ?_
  rintro _ w35 ⟨rfl, m⟩
  replace M := M.leaveW0 m
  clear m
  refine wP (vB true) (wA (vB true) (WL.nil (wR (wM (vP tb) ?_))))
  have fq := M.frm [arenaC 107 112 S ab l] [bk b8 #[(vI D_)] 3, oP v2 cs3, rowsC 9 N4 0 cs3 (plcL fu d l rt)] [1, 0, 2, 3] rfl
  refine WL.callX rfl (tr_all tb ab rt fu ln l S (by assumption) d (by assumption) (by omega) (M.eF fq ⟨(M.rF fq 0 rfl), trivial⟩)) (CallsF.func Tryz.en18 rfl) ?_
  rintro v36 w37 ⟨_, rfl, m⟩
  replace M := M.lF fq m
  clear m
  have sl38 : IsSl v36 := SlAt.isSl (own_slAt (Mem.chunk M 1 rfl).inv)
  have hle39 := SlAt.le' (own_slAt (Mem.chunk M 1 rfl).inv)
  refine wA v36 (WL.nil (wR (wM v36 ?_)))
  refine WL.callX rfl (is_sorted v36 (allL fu d l rt) (by assumption) (M.enterW0 ⟨((M.wideC0 1 rfl).imp fun _ h => own_slAt h), trivial⟩)) (CallsF.func Tryz.en36 rfl) ?_
  rintro _ w40 ⟨rfl, m⟩
  replace M := M.leaveW0 m
  clear m
  refine wA (vB true) (WL.nil (W.seq' (wR (wM (vB true) (wP (vB false) ?_)))))
  refine wM (vB false) (wM (vB true) (wP (vB false) (wS (vB false) rfl (Step.pick (t := false) rfl rfl) (wM (vB false) (wM v36 ?_)))))
  refine wS (vI (↑((allL fu d l rt).length))) rfl (Step.lenSl Tryz.un49 rfl (own_slAt (M.chunk 1 rfl).inv)) (wM (vP tb) (wP (vP tb) (wP (Value.pointer (some ⟨tb, 4, none⟩)) (wS (vI ln) rfl (Step.load1 Tryz.sc3 rfl ((cell_blk (M.rep 0 rfl) 4).trans rfl)) (wP (vB ((↑((allL fu d l rt).length) : Int) != (ln : Int))) ?_)))))
  refine wS (vB ((↑((allL fu d l rt).length) : Int) != (ln : Int))) rfl (Step.pick (t := false) rfl rfl) (wM (vB ((↑((allL fu d l rt).length) : Int) != (ln : Int))) ?_)
  rcases Bool.eq_false_or_eq_true ((↑((allL fu d l rt).length) : Int) != (ln : Int)) with h41 | h41
  ·
   have h41p : ¬ (↑((allL fu d l rt).length) : Int) = (ln : Int) := by simpa using h41
   omega
  ·
   have h41p : (↑((allL fu d l rt).length) : Int) = (ln : Int) := by simpa using h41
   rw [h41]
   refine wM (vI (↑(usedN l))) (wM v2 (wS (vI ↑cs3.length) rfl (Step.lenSl Tryz.un38 rfl (own_slAt (M.chunk 3 rfl).inv)) (wP (vB ((↑(usedN l) : Int) != (↑cs3.length : Int))) (wS (vB ((↑(usedN l) : Int) != (↑cs3.length : Int))) rfl (Step.pick (t := false) rfl rfl) (WL.nil ?_)))))
   refine W.cond (t := (↑(usedN l) : Int) != (↑cs3.length : Int)) rfl (fun h42 => ?_) (fun h42 => ?_)
   ·
    have h42p : ¬ (↑(usedN l) : Int) = (↑cs3.length : Int) := by simpa using h42
    omega
   ·
    have h42p : (↑(usedN l) : Int) = (↑cs3.length : Int) := by simpa using h42
    refine W.skip (wR (wA (vI 0) (WL.nil ?_)))
    refine W.ret ?_
    refine ⟨.inl rfl, (vI 0), ?_, ?_⟩
    · exact ⟨rfl, (Res.r1 (show RV _ _ _ (.tmp 2) (vI 0) from by exact rfl))⟩
    refine ⟨?_, M.close [0] rfl (by decide) trivial⟩
    rfl
theorem tr_check0 {G : Nat → Prop} {w : World}    (M : Mem G (fun _ => False) w [] [] w) : Rets Tryz.prog 13 #[vN] w fun r w' => r = (vI 1) ∧ Mem G (fun _ => False) w [] [] w' := by
 refine Rets.enter 87 _ Tryz.func13 rfl Tryz.ntmps13 Tryz.results13 (by simp) ?_
 refine wR (wA (vI 0) (WL.nil (W.seq' (wR (wM vN ?_)))))
 refine wP (vB true) (WL.nil ?_)
 refine W.cond (t := true) rfl (fun _ => ?_) (fun h => by cases h)
 refine wR (wA (vI 1) (WL.nil ?_))
 refine W.ret ?_
 refine ⟨.inl rfl, (vI 1), ?_, ?_⟩
 · exact ⟨rfl, (Res.r1 (show RV _ _ _ (.tmp 2) (vI 1) from by exact rfl))⟩
 refine ⟨?_, M.close [] rfl (by decide) trivial⟩
 rfl
end Go.Proofs
namespace Tp
open Go
def fromL (l : List THit) (k : ByteArray) : THit × Bool := firstL l (fun x => !(sLt x k)) noHit
def afterL (l : List THit) (k : ByteArray) : THit × Bool := firstL l (fun x => sLt k x) noHit
def uptoL (l : List THit) (k : ByteArray) : THit × Bool := lastL l (fun x => !(sLt k x)) noHit
def beforeL (l : List THit) (k : ByteArray) : THit × Bool := lastL l (fun x => sLt x k) noHit
def headL (l : List THit) : THit × Bool := firstL l (fun _ => true) noHit
def tailL (l : List THit) : THit × Bool := lastL l (fun _ => true) noHit
section
variable {F X G : Nat → Prop} {w0 w : World} {L L' Ln : List Chunk} {R : List (World → Prop)} {t u e : TypeId} {S : Nat → Prop} {tb c : Nat} {row : List THit} {P : Program} {f : FuncId} {args : Array Value}
theorem Mem.perm (M : Mem F X w0 L R w) (h : L.Perm L') : Mem F X w0 L' R w :=
  ⟨M.mod, fun c hc => M.ok c (h.mem_iff.2 hc), h.pairwise M.disj fun hxy b hb hb' => hxy b hb' hb, fun c hc => M.in_ c (h.mem_iff.2 hc), fun r hr => (M.sh r hr).mono fun b hb _ => ⟨hb.1, fun c hc => hb.2 c (h.mem_iff.2 hc)⟩⟩
theorem reads_via {ι : Type} {A B : Chunk} (r : ι → Value) (Ln : ι → List Chunk) (M : Mem G X w [B, A] [] w)
    (h : ∀ (G' X' : Nat → Prop), Mem G' X' w [A] [B.inv] w → Rets P f args w fun v w' => ∃ q : ι, v = r q ∧ Mem G' X' w (A :: Ln q) [] w') :
    Rets P f args w fun v w' => ∃ q : ι, v = r q ∧ Mem G X w (B :: A :: Ln q) [] w' := by
  refine Rets.mono (h _ _ (M.enterW (C := [A]) (D := [B]) [1, 0] rfl (by decide) ⟨M.wideC (C := [A]) (D := [B]) [1, 0] rfl (by decide) 0 rfl, trivial⟩)) ?_
  rintro v w' ⟨q, rfl, m⟩
  have M2 := M.leaveW (C := [A]) (D := [B]) [1, 0] rfl (by decide) m
  exact ⟨q, rfl, M2.perm (List.perm_append_comm (l₁ := A :: Ln q) (l₂ := [B]))⟩
theorem tab_reads {ι : Type} (r : ι → Value) (Ln : ι → List Chunk) (M : Mem G X w [tabC t u e S tb row c] [] w)
    (h : ∀ i : TabJ, TabP row c i → ∀ (G' X' : Nat → Prop), Mem G' X' w [arenaC u e i.S i.ab i.l] [bF tb #[.pointer (some ⟨i.ab, 0, none⟩), .int .i64 i.rt.at_, .int .i64 i.rt.turn, .bool i.fu, .int .i64 i.ln] t] w → Rets P f args w fun v w' => ∃ q : ι, v = r q ∧ Mem G' X' w (arenaC u e i.S i.ab i.l :: Ln q) [] w') :
    Rets P f args w fun v w' => ∃ q : ι, v = r q ∧ Mem G X w (tabC t u e S tb row c :: Ln q) [] w' := by
  obtain ⟨i, hi, rfl, M1⟩ := M.unpack
  refine Rets.mono (reads_via r Ln M1 fun G' X' M' => h i hi G' X' M') ?_
  rintro v w' ⟨q, rfl, m⟩
  exact ⟨q, rfl, Mem.pack (Ls := tabL t u e tb) (p := TabP row c) (L := Ln q) i m hi⟩
theorem TabP.up {i : TabJ} (h : TabP row c i) : TabP row (c + 1) i := by
  obtain ⟨K, d, H, hK, hr⟩ := h; exact ⟨K, d, H, Nat.le_trans hK (Nat.mul_le_mul_right _ (Nat.le_succ _)), Nat.le_succ_of_le hr⟩
theorem Mem.tabUp (M : Mem F X w0 (tabC t u e S tb row c :: L) R w) : Mem F X w0 (tabC t u e S tb row (c + 1) :: L) R w := by
  obtain ⟨i, hi, rfl, M1⟩ := M.unpack
  exact Mem.pack (Ls := tabL t u e tb) (p := TabP row (c + 1)) i M1 hi.up
theorem TabI.small' {l : List RPlace} {r : Handle} {fu : Bool} {ln : Int} {K d : Nat} (H : TabI l r fu ln row K d) (hK : K ≤ 1000000) : SmallA l := H.big.small hK
theorem tab_pl {l : List RPlace} {r : Handle} {fu : Bool} {ln : Int} {K d : Nat} (H : TabI l r fu ln row K d) : fu = true → plOk d l r := by
  rcases H.tree with ⟨rfl, _⟩ | ⟨_, t, rfl, h2, h3, h4, rfl, h6⟩
  · intro h; cases h
  · intro _; exact pl_okW h2 h4 H.big
theorem usedN_le (l : List RPlace) : usedN l ≤ l.length := List.countP_le_length
theorem plc_deep {ps : List TPl} {D : Nat} (h : PlcOk row ps D) : D ≤ row.length := by
  have : ∀ n, n ≤ leastK n := by
    intro n
    induction n with
    | zero => exact Nat.zero_le _
    | succ n ih =>
      cases n with
      | zero => exact Nat.le_refl _
      | succ n => rw [leastK]; omega
  exact Nat.le_trans (this D) h.least
theorem put_row {i : TabJ} {x : THit} {K d : Nat} (H : TabI i.l i.rt i.fu i.ln row K d) (hK : K ≤ c * 1000) (hr : row.length ≤ c) (hc : c ≤ 900) {S' : Nat → Prop} :
    TabP (putR row x) (c + 1) ⟨i.ab, (putT d i.l i.rt i.fu i.ln x).1.2, true, (putT d i.l i.rt i.fu i.ln x).2.1, (putT d i.l i.rt i.fu i.ln x).1.1, S'⟩ := by
  obtain ⟨d', H', _⟩ := put_tab (x := x) H
  have hd := tab_deep H
  rw [← putR_eq H.up] at H'
  refine ⟨_, d', H', by omega, ?_⟩
  rw [putR_eq H.up]
  have := put_len (x := x) H.up
  omega
end
end Tp
set_option maxRecDepth 100000
namespace Go.Proofs
open Go Tp
abbrev tT (S : Nat → Prop) (tb : Nat) (row : List THit) (c : Nat) : Chunk := tabC 70 107 112 S tb row c
theorem T_new {G : Nat → Prop} {w : World}    (M : Mem G (fun _ => False) w [] [] w) : Rets Tryz.prog 10 #[] w fun r w' => ∃ (tb' : Nat) (S' : Nat → Prop), r = (vP tb') ∧ Mem G (fun _ => False) w [tT S' tb' ([] : List THit) 0] [] w' := by
 refine Rets.mono (tab_new M) ?_
 rintro _ w' ⟨tb, ab, S', rfl, m⟩
 exact ⟨tb, _, rfl, Mem.pack (Ls := tabL 70 107 112 tb) (p := TabP [] 0) ⟨ab, ⟨0, 0⟩, false, 0, [], S'⟩ m ⟨0, 0, Tp.tab_new, Nat.le_refl _, Nat.le_refl _⟩⟩
theorem T_len {G X : Nat → Prop} {w : World} (tb : Nat) (S : Nat → Prop) (row : List THit) (c : Nat)   (M : Mem G X w [tT S tb row c] [] w) : Rets Tryz.prog 19 #[(vP tb)] w fun r w' => r = (vI ↑row.length) ∧ Mem G X w [tT S tb row c] [] w' := by
 obtain ⟨i, ⟨K, d, H, hK, hr⟩, rfl, M1⟩ := M.unpack
 refine Rets.mono (tab_len tb i.ab i.rt i.fu i.ln i.l i.S M1) ?_
 rintro _ w' ⟨rfl, m⟩
 exact ⟨by rw [H.len], Mem.pack (Ls := tabL 70 107 112 tb) (p := TabP row c) i m ⟨K, d, H, hK, hr⟩⟩
theorem T_put {G X : Nat → Prop} {w : World} (tb : Nat) (S : Nat → Prop) (row : List THit) (c : Nat) (k : ByteArray) (v : Int)  (hc : c ≤ 900) (M : Mem G X w [tT S tb row c] [] w) : Rets Tryz.prog 22 #[(vP tb), (vS k), (vI v)] w fun r w' => ∃ (S' : Nat → Prop), r = (Value.tuple #[(vI ((getL row k).1)), (vB ((getL row k).2))]) ∧ Mem G X w [tT S' tb (putR row (⟨k, v⟩ : THit)) (c + 1)] [] w' := by
 obtain ⟨i, ⟨K, d, H, hK, hr⟩, rfl, M1⟩ := M.unpack
 have hd := tab_deep H
 refine Rets.mono (tab_put tb i.ab i.rt i.fu i.ln i.l i.S k v (H.small' (by omega)) d (put_okW H (by omega)) (put_small H (by omega)) (by rw [H.len]; omega) M1) ?_
 rintro _ w' ⟨S', rfl, m⟩
 obtain ⟨_, _, e⟩ := put_tab (x := (⟨k, v⟩ : THit)) H
 exact ⟨_, by rw [e], Mem.pack (Ls := tabL 70 107 112 tb) (p := TabP (putR row (⟨k, v⟩ : THit)) (c + 1)) ⟨i.ab, _, true, _, _, S'⟩ m (put_row H hK hr hc)⟩
theorem T_delete {G X : Nat → Prop} {w : World} (tb : Nat) (S : Nat → Prop) (row : List THit) (c : Nat) (k : ByteArray)  (hc : c ≤ 900) (M : Mem G X w [tT S tb row c] [] w) : Rets Tryz.prog 25 #[(vP tb), (vS k)] w fun r w' => ∃ (S' : Nat → Prop), r = (Value.tuple #[(vI ((getL row k).1)), (vB ((getL row k).2))]) ∧ Mem G X w [tT S' tb (delL row k) c] [] w' := by
 obtain ⟨i, ⟨K, d, H, hK, hr⟩, rfl, M1⟩ := M.unpack
 refine Rets.mono (tab_delete tb i.ab i.rt i.fu i.ln i.l i.S k (H.small' (by omega)) d (tab_look H) (del_small H (by omega)) (by rw [H.len]; omega) M1) ?_
 rintro _ w' ⟨S', rfl, m⟩
 obtain ⟨d', H'⟩ := del_row (k := k) H
 exact ⟨_, by rw [tab_get H], Mem.pack (Ls := tabL 70 107 112 tb) (p := TabP (delL row k) c) ⟨i.ab, _, _, _, _, S'⟩ m ⟨K, d', H', hK, Nat.le_trans delL_le hr⟩⟩
theorem T_get {G X : Nat → Prop} {w : World} (tb : Nat) (S : Nat → Prop) (row : List THit) (c : Nat) (k : ByteArray)  (hc : c ≤ 900) (M : Mem G X w [tT S tb row c] [] w) : Rets Tryz.prog 28 #[(vP tb), (vS k)] w fun r w' => r = (Value.tuple #[(vI ((getL row k).1)), (vB ((getL row k).2))]) ∧ Mem G X w [tT S tb row c] [] w' := by
 refine (tab_reads (ι := Unit) (fun _ => (Value.tuple #[(vI ((getL row k).1)), (vB ((getL row k).2))])) (fun _ => []) M fun i ⟨K, d, H, hK, hr⟩ G' X' M' => ?_).mono fun v w' ⟨_, e, m⟩ => ⟨e, m⟩
 refine (tr_Get tb i.ab i.rt i.fu i.ln i.l i.S k (H.small' (by omega)) d (tab_look H) M').mono fun v w' ⟨e, m⟩ => ⟨(), ?_, m⟩
 rw [e, tab_get H]
theorem T_from {G X : Nat → Prop} {w : World} (tb : Nat) (S : Nat → Prop) (row : List THit) (c : Nat) (k : ByteArray)  (hc : c ≤ 900) (M : Mem G X w [tT S tb row c] [] w) : Rets Tryz.prog 29 #[(vP tb), (vS k)] w fun r w' => r = (Value.tuple #[(Value.agg #[(vS (((fromL row k).1).key)), (vI (((fromL row k).1).val))]), (vB ((fromL row k).2))]) ∧ Mem G X w [tT S tb row c] [] w' := by
 refine (tab_reads (ι := Unit) (fun _ => (Value.tuple #[(Value.agg #[(vS (((fromL row k).1).key)), (vI (((fromL row k).1).val))]), (vB ((fromL row k).2))])) (fun _ => []) M fun i ⟨K, d, H, hK, hr⟩ G' X' M' => ?_).mono fun v w' ⟨_, e, m⟩ => ⟨e, m⟩
 refine (tr_From tb i.ab i.rt i.fu i.ln i.l i.S k (H.small' (by omega)) d (tab_look H) M').mono fun v w' ⟨e, m⟩ => ⟨(), ?_, m⟩
 rw [e, tab_lookT H (upP_ge k)]; rfl
theorem T_after {G X : Nat → Prop} {w : World} (tb : Nat) (S : Nat → Prop) (row : List THit) (c : Nat) (k : ByteArray)  (hc : c ≤ 900) (M : Mem G X w [tT S tb row c] [] w) : Rets Tryz.prog 42 #[(vP tb), (vS k)] w fun r w' => r = (Value.tuple #[(Value.agg #[(vS (((afterL row k).1).key)), (vI (((afterL row k).1).val))]), (vB ((afterL row k).2))]) ∧ Mem G X w [tT S tb row c] [] w' := by
 refine (tab_reads (ι := Unit) (fun _ => (Value.tuple #[(Value.agg #[(vS (((afterL row k).1).key)), (vI (((afterL row k).1).val))]), (vB ((afterL row k).2))])) (fun _ => []) M fun i ⟨K, d, H, hK, hr⟩ G' X' M' => ?_).mono fun v w' ⟨_, e, m⟩ => ⟨e, m⟩
 refine (tr_After tb i.ab i.rt i.fu i.ln i.l i.S k (H.small' (by omega)) d (tab_look H) M').mono fun v w' ⟨e, m⟩ => ⟨(), ?_, m⟩
 rw [e, tab_lookT H (upP_gt k)]; rfl
theorem T_upto {G X : Nat → Prop} {w : World} (tb : Nat) (S : Nat → Prop) (row : List THit) (c : Nat) (k : ByteArray)  (hc : c ≤ 900) (M : Mem G X w [tT S tb row c] [] w) : Rets Tryz.prog 44 #[(vP tb), (vS k)] w fun r w' => r = (Value.tuple #[(Value.agg #[(vS (((uptoL row k).1).key)), (vI (((uptoL row k).1).val))]), (vB ((uptoL row k).2))]) ∧ Mem G X w [tT S tb row c] [] w' := by
 refine (tab_reads (ι := Unit) (fun _ => (Value.tuple #[(Value.agg #[(vS (((uptoL row k).1).key)), (vI (((uptoL row k).1).val))]), (vB ((uptoL row k).2))])) (fun _ => []) M fun i ⟨K, d, H, hK, hr⟩ G' X' M' => ?_).mono fun v w' ⟨_, e, m⟩ => ⟨e, m⟩
 refine (tr_Upto tb i.ab i.rt i.fu i.ln i.l i.S k (H.small' (by omega)) d (tab_look H) M').mono fun v w' ⟨e, m⟩ => ⟨(), ?_, m⟩
 rw [e, tab_lookG H (downP_le k)]; rfl
theorem T_before {G X : Nat → Prop} {w : World} (tb : Nat) (S : Nat → Prop) (row : List THit) (c : Nat) (k : ByteArray)  (hc : c ≤ 900) (M : Mem G X w [tT S tb row c] [] w) : Rets Tryz.prog 30 #[(vP tb), (vS k)] w fun r w' => r = (Value.tuple #[(Value.agg #[(vS (((beforeL row k).1).key)), (vI (((beforeL row k).1).val))]), (vB ((beforeL row k).2))]) ∧ Mem G X w [tT S tb row c] [] w' := by
 refine (tab_reads (ι := Unit) (fun _ => (Value.tuple #[(Value.agg #[(vS (((beforeL row k).1).key)), (vI (((beforeL row k).1).val))]), (vB ((beforeL row k).2))])) (fun _ => []) M fun i ⟨K, d, H, hK, hr⟩ G' X' M' => ?_).mono fun v w' ⟨_, e, m⟩ => ⟨e, m⟩
 refine (tr_Before tb i.ab i.rt i.fu i.ln i.l i.S k (H.small' (by omega)) d (tab_look H) M').mono fun v w' ⟨e, m⟩ => ⟨(), ?_, m⟩
 rw [e, tab_lookG H (downP_lt k)]; rfl
theorem T_first {G X : Nat → Prop} {w : World} (tb : Nat) (S : Nat → Prop) (row : List THit) (c : Nat)  (hc : c ≤ 900) (M : Mem G X w [tT S tb row c] [] w) : Rets Tryz.prog 47 #[(vP tb)] w fun r w' => r = (Value.tuple #[(Value.agg #[(vS (((headL row).1).key)), (vI (((headL row).1).val))]), (vB ((headL row).2))]) ∧ Mem G X w [tT S tb row c] [] w' := by
 refine (tab_reads (ι := Unit) (fun _ => (Value.tuple #[(Value.agg #[(vS (((headL row).1).key)), (vI (((headL row).1).val))]), (vB ((headL row).2))])) (fun _ => []) M fun i ⟨K, d, H, hK, hr⟩ G' X' M' => ?_).mono fun v w' ⟨_, e, m⟩ => ⟨e, m⟩
 refine (tr_First tb i.ab i.rt i.fu i.ln i.l i.S (H.small' (by omega)) d (tab_look H) M').mono fun v w' ⟨e, m⟩ => ⟨(), ?_, m⟩
 rw [e, tab_lookT H upP_all]; rfl
theorem T_last {G X : Nat → Prop} {w : World} (tb : Nat) (S : Nat → Prop) (row : List THit) (c : Nat)  (hc : c ≤ 900) (M : Mem G X w [tT S tb row c] [] w) : Rets Tryz.prog 48 #[(vP tb)] w fun r w' => r = (Value.tuple #[(Value.agg #[(vS (((tailL row).1).key)), (vI (((tailL row).1).val))]), (vB ((tailL row).2))]) ∧ Mem G X w [tT S tb row c] [] w' := by
 refine (tab_reads (ι := Unit) (fun _ => (Value.tuple #[(Value.agg #[(vS (((tailL row).1).key)), (vI (((tailL row).1).val))]), (vB ((tailL row).2))])) (fun _ => []) M fun i ⟨K, d, H, hK, hr⟩ G' X' M' => ?_).mono fun v w' ⟨_, e, m⟩ => ⟨e, m⟩
 refine (tr_Last tb i.ab i.rt i.fu i.ln i.l i.S (H.small' (by omega)) d (tab_look H) M').mono fun v w' ⟨e, m⟩ => ⟨(), ?_, m⟩
 rw [e, tab_lookG H downP_all]; rfl
theorem T_all {G X : Nat → Prop} {w : World} (tb : Nat) (S : Nat → Prop) (row : List THit) (c : Nat)  (hc : c ≤ 900) (M : Mem G X w [tT S tb row c] [] w) : Rets Tryz.prog 18 #[(vP tb)] w fun r w' => ∃ (v' : Value), r = v' ∧ Mem G X w [tT S tb row c, oR v' row] [] w' := by
 refine (tab_reads (ι := Value) (fun v' => v') (fun v' => [oR v' row]) M fun i ⟨K, d, H, hK, hr⟩ G' X' M' => ?_)
 refine (tr_all tb i.ab i.rt i.fu i.ln i.l i.S (H.small' (by omega)) d (tab_look H) (by rw [tab_all H]; omega) M').mono fun v w' ⟨v', e, m⟩ => ⟨v', e, ?_⟩
 rw [tab_all H] at m
 exact m
theorem T_places {G X : Nat → Prop} {w : World} (tb : Nat) (S : Nat → Prop) (row : List THit) (c : Nat)  (hc : c ≤ 900) (M : Mem G X w [tT S tb row c] [] w) : Rets Tryz.prog 12 #[(vP tb)] w fun r w' => ∃ (v' : Value) (cs' : List PlC) (N' : Nat → Prop) (ps' : List TPl), r = v' ∧ Mem G X w [tT S tb row c, oP v' cs', rowsC 9 N' 0 cs' ps', propC (PlcP row ps')] [] w' := by
 refine (tab_reads (ι := Value × List PlC × (Nat → Prop) × List TPl) (fun q => q.1) (fun q => [oP q.1 q.2.1, rowsC 9 q.2.2.1 0 q.2.1 q.2.2.2, propC (PlcP row q.2.2.2)]) M fun i ⟨K, d, H, hK, hr⟩ G' X' M' => ?_).mono fun v w' ⟨⟨v', cs', N', ps'⟩, e, m⟩ => ⟨v', cs', N', ps', e, m⟩
 have hd := tab_deep H
 have hA := H.small' (by omega)
 have hu := usedN_le i.l
 have hl := hA.1
 refine (tr_Places tb i.ab i.rt i.fu i.ln i.l i.S hA d (tab_pl H) (by omega) (by rw [(tab_plc H).2]; omega) M').mono fun v w' ⟨v', cs', N', e, m⟩ => ⟨(v', cs', N', plcL i.fu d i.l i.rt), e, ?_⟩
 exact (m.addProp (tab_plc H).1).sel [1, 2, 3, 0] rfl (by decide)
theorem T_check {G X : Nat → Prop} {w : World} (tb : Nat) (S : Nat → Prop) (row : List THit) (c : Nat)  (hc : c ≤ 900) (M : Mem G X w [tT S tb row c] [] w) : Rets Tryz.prog 13 #[(vP tb)] w fun r w' => r = (vI 0) ∧ Mem G X w [tT S tb row c] [] w' := by
 refine (tab_reads (ι := Unit) (fun _ => vI 0) (fun _ => []) M fun i ⟨K, d, H, hK, hr⟩ G' X' M' => ?_).mono fun v w' ⟨_, e, m⟩ => ⟨e, m⟩
 have hd := tab_deep H
 have hA := H.small' (by omega)
 have hu := usedN_le i.l
 have hl := hA.1
 obtain ⟨D, hP⟩ := plc_ok (tab_plc H).1
 have hD := plc_deep hP
 exact (tr_check tb i.ab i.rt i.fu i.ln i.l i.S hA d (tab_look H) (tab_pl H) (by omega) (by rw [(tab_plc H).2]; omega) row D hP (by omega) (by rw [tab_all H]; exact H.up) (by rw [tab_all H, H.len]) (by rw [H.len]; omega) (tab_plc H).2.symm M').mono fun v w' ⟨e, m⟩ => ⟨(), e, m⟩
theorem tr_least0 {G : Nat → Prop} {w : World} (f : Value)   (M : Mem G (fun _ => False) w [] [] w) : Rets Tryz.prog 54 #[vN, f] w fun r w' => r = (Value.tuple #[(Value.agg #[(vS sZ), (vI 0)]), (vB false)]) ∧ Mem G (fun _ => False) w [] [] w' := by
 refine Rets.enter 69 _ Tryz.func54 rfl Tryz.ntmps54 Tryz.results54 (by simp) ?_
 refine wR ?_
 refine WL.alloc (c := #[(vS sZ), (vI 0)]) M rfl Tryz.el55.zero rfl (fun b1 w2 hb1 M => ?_)
 refine wA (vB false) (WL.nil (W.seq' (wR (wM vN (wP (vB true) ?_)))))
 refine wM (vB true) ?_
 refine WL.pass rfl ?_
 refine WL.pass rfl ?_
 refine WL.pass rfl ?_
 refine WL.pass rfl ?_
 refine WL.pass rfl ?_
 refine wS (vB true) rfl (Step.pick (t := true) rfl rfl) (WL.nil ?_)
 refine W.cond (t := true) rfl (fun _ => ?_) (fun h => by cases h)
 refine wR (wP (Value.agg #[(vS sZ), (vI 0)]) ?_)
 refine WL.store (v := (Value.agg #[(vS sZ), (vI 0)])) (cs := [(vS sZ), (vI 0)]) (c' := #[(vS sZ), (vI 0)]) M 0 rfl rfl Tryz.el55.sized rfl rfl rfl rfl (Nat.le_of_ble_eq_true rfl) (cel_cons rfl (cel_cons rfl cel_nil)) rfl rfl (fun w3 M => ?_)
 refine wA (vB false) (WL.nil ?_)
 refine W.ret ?_
 refine ⟨.inl rfl, (Value.tuple #[(Value.agg #[(vS sZ), (vI 0)]), (vB false)]), ?_, ?_⟩
 · exact ⟨rfl, (Res.r2 (RV.cellN Tryz.ag55 rfl (M.blk 0 rfl) rfl) (show RV _ _ _ (.tmp 5) (vB false) from by exact rfl))⟩
 refine ⟨?_, M.close [] rfl (by decide) trivial⟩
 rfl
theorem tr_greatest0 {G : Nat → Prop} {w : World} (f : Value)   (M : Mem G (fun _ => False) w [] [] w) : Rets Tryz.prog 56 #[vN, f] w fun r w' => r = (Value.tuple #[(Value.agg #[(vS sZ), (vI 0)]), (vB false)]) ∧ Mem G (fun _ => False) w [] [] w' := by
 refine Rets.enter 69 _ Tryz.func56 rfl Tryz.ntmps56 Tryz.results56 (by simp) ?_
 refine wR ?_
 refine WL.alloc (c := #[(vS sZ), (vI 0)]) M rfl Tryz.el55.zero rfl (fun b1 w2 hb1 M => ?_)
 refine wA (vB false) (WL.nil (W.seq' (wR (wM vN (wP (vB true) ?_)))))
 refine wM (vB true) ?_
 refine WL.pass rfl ?_
 refine WL.pass rfl ?_
 refine WL.pass rfl ?_
 refine WL.pass rfl ?_
 refine WL.pass rfl ?_
 refine wS (vB true) rfl (Step.pick (t := true) rfl rfl) (WL.nil ?_)
 refine W.cond (t := true) rfl (fun _ => ?_) (fun h => by cases h)
 refine wR (wP (Value.agg #[(vS sZ), (vI 0)]) ?_)
 refine WL.store (v := (Value.agg #[(vS sZ), (vI 0)])) (cs := [(vS sZ), (vI 0)]) (c' := #[(vS sZ), (vI 0)]) M 0 rfl rfl Tryz.el55.sized rfl rfl rfl rfl (Nat.le_of_ble_eq_true rfl) (cel_cons rfl (cel_cons rfl cel_nil)) rfl rfl (fun w3 M => ?_)
 refine wA (vB false) (WL.nil ?_)
 refine W.ret ?_
 refine ⟨.inl rfl, (Value.tuple #[(Value.agg #[(vS sZ), (vI 0)]), (vB false)]), ?_, ?_⟩
 · exact ⟨rfl, (Res.r2 (RV.cellN Tryz.ag55 rfl (M.blk 0 rfl) rfl) (show RV _ _ _ (.tmp 5) (vB false) from by exact rfl))⟩
 refine ⟨?_, M.close [] rfl (by decide) trivial⟩
 rfl
theorem T_from0 {G : Nat → Prop} {w : World} (k : ByteArray)   (M : Mem G (fun _ => False) w [] [] w) : Rets Tryz.prog 29 #[vN, (vS k)] w fun r w' => r = (Value.tuple #[(Value.agg #[(vS sZ), (vI 0)]), (vB false)]) ∧ Mem G (fun _ => False) w [] [] w' := by
 refine Rets.enter 11 _ Tryz.func29 rfl Tryz.ntmps29 Tryz.results29 (by simp) ?_
 refine wR ?_
 refine WL.box (v := (vS k)) (c := #[(vS k)]) M rfl rfl rfl (fun b1 w2 hb1 M => ?_)
 refine WL.alloc (c := #[(vS sZ), (vI 0)]) M rfl Tryz.el55.zero rfl (fun b3 w4 hb3 M => ?_)
 refine wA (vB false) (WL.nil (wR (wM vN (wP (Value.func (.func 55) #[] #[(vP b1)]) ?_))))
 refine WL.callX rfl (tr_least0 (Value.func (.func 55) #[] #[(vP b1)]) (M.enterW0 trivial)) (CallsF.func Tryz.en54 rfl) ?_
 rintro _ w5 ⟨rfl, m⟩
 replace M := M.leaveW0 m
 clear m
 refine wP (Value.agg #[(vS sZ), (vI 0)]) (wP (vB false) ?_)
 refine WL.store (v := (Value.agg #[(vS sZ), (vI 0)])) (cs := [(vS sZ), (vI 0)]) (c' := #[(vS sZ), (vI 0)]) M 0 rfl rfl Tryz.el55.sized rfl rfl rfl rfl (Nat.le_of_ble_eq_true rfl) (cel_cons rfl (cel_cons rfl cel_nil)) rfl rfl (fun w6 M => ?_)
 refine wA (vB false) (WL.nil ?_)
 refine W.ret ?_
 refine ⟨.inl rfl, (Value.tuple #[(Value.agg #[(vS sZ), (vI 0)]), (vB false)]), ?_, ?_⟩
 · exact ⟨rfl, (Res.r2 (RV.cellN Tryz.ag55 rfl (M.blk 0 rfl) rfl) (show RV _ _ _ (.tmp 5) (vB false) from by exact rfl))⟩
 refine ⟨?_, M.close [] rfl (by decide) trivial⟩
 rfl
theorem T_after0 {G : Nat → Prop} {w : World} (k : ByteArray)   (M : Mem G (fun _ => False) w [] [] w) : Rets Tryz.prog 42 #[vN, (vS k)] w fun r w' => r = (Value.tuple #[(Value.agg #[(vS sZ), (vI 0)]), (vB false)]) ∧ Mem G (fun _ => False) w [] [] w' := by
 refine Rets.enter 11 _ Tryz.func42 rfl Tryz.ntmps42 Tryz.results42 (by simp) ?_
 refine wR ?_
 refine WL.box (v := (vS k)) (c := #[(vS k)]) M rfl rfl rfl (fun b1 w2 hb1 M => ?_)
 refine WL.alloc (c := #[(vS sZ), (vI 0)]) M rfl Tryz.el55.zero rfl (fun b3 w4 hb3 M => ?_)
 refine wA (vB false) (WL.nil (wR (wM vN (wP (Value.func (.func 61) #[] #[(vP b1)]) ?_))))
 refine WL.callX rfl (tr_least0 (Value.func (.func 61) #[] #[(vP b1)]) (M.enterW0 trivial)) (CallsF.func Tryz.en54 rfl) ?_
 rintro _ w5 ⟨rfl, m⟩
 replace M := M.leaveW0 m
 clear m
 refine wP (Value.agg #[(vS sZ), (vI 0)]) (wP (vB false) ?_)
 refine WL.store (v := (Value.agg #[(vS sZ), (vI 0)])) (cs := [(vS sZ), (vI 0)]) (c' := #[(vS sZ), (vI 0)]) M 0 rfl rfl Tryz.el55.sized rfl rfl rfl rfl (Nat.le_of_ble_eq_true rfl) (cel_cons rfl (cel_cons rfl cel_nil)) rfl rfl (fun w6 M => ?_)
 refine wA (vB false) (WL.nil ?_)
 refine W.ret ?_
 refine ⟨.inl rfl, (Value.tuple #[(Value.agg #[(vS sZ), (vI 0)]), (vB false)]), ?_, ?_⟩
 · exact ⟨rfl, (Res.r2 (RV.cellN Tryz.ag55 rfl (M.blk 0 rfl) rfl) (show RV _ _ _ (.tmp 5) (vB false) from by exact rfl))⟩
 refine ⟨?_, M.close [] rfl (by decide) trivial⟩
 rfl
theorem T_upto0 {G : Nat → Prop} {w : World} (k : ByteArray)   (M : Mem G (fun _ => False) w [] [] w) : Rets Tryz.prog 44 #[vN, (vS k)] w fun r w' => r = (Value.tuple #[(Value.agg #[(vS sZ), (vI 0)]), (vB false)]) ∧ Mem G (fun _ => False) w [] [] w' := by
 refine Rets.enter 11 _ Tryz.func44 rfl Tryz.ntmps44 Tryz.results44 (by simp) ?_
 refine wR ?_
 refine WL.box (v := (vS k)) (c := #[(vS k)]) M rfl rfl rfl (fun b1 w2 hb1 M => ?_)
 refine WL.alloc (c := #[(vS sZ), (vI 0)]) M rfl Tryz.el55.zero rfl (fun b3 w4 hb3 M => ?_)
 refine wA (vB false) (WL.nil (wR (wM vN (wP (Value.func (.func 62) #[] #[(vP b1)]) ?_))))
 refine WL.callX rfl (tr_greatest0 (Value.func (.func 62) #[] #[(vP b1)]) (M.enterW0 trivial)) (CallsF.func Tryz.en56 rfl) ?_
 rintro _ w5 ⟨rfl, m⟩
 replace M := M.leaveW0 m
 clear m
 refine wP (Value.agg #[(vS sZ), (vI 0)]) (wP (vB false) ?_)
 refine WL.store (v := (Value.agg #[(vS sZ), (vI 0)])) (cs := [(vS sZ), (vI 0)]) (c' := #[(vS sZ), (vI 0)]) M 0 rfl rfl Tryz.el55.sized rfl rfl rfl rfl (Nat.le_of_ble_eq_true rfl) (cel_cons rfl (cel_cons rfl cel_nil)) rfl rfl (fun w6 M => ?_)
 refine wA (vB false) (WL.nil ?_)
 refine W.ret ?_
 refine ⟨.inl rfl, (Value.tuple #[(Value.agg #[(vS sZ), (vI 0)]), (vB false)]), ?_, ?_⟩
 · exact ⟨rfl, (Res.r2 (RV.cellN Tryz.ag55 rfl (M.blk 0 rfl) rfl) (show RV _ _ _ (.tmp 5) (vB false) from by exact rfl))⟩
 refine ⟨?_, M.close [] rfl (by decide) trivial⟩
 rfl
theorem T_before0 {G : Nat → Prop} {w : World} (k : ByteArray)   (M : Mem G (fun _ => False) w [] [] w) : Rets Tryz.prog 30 #[vN, (vS k)] w fun r w' => r = (Value.tuple #[(Value.agg #[(vS sZ), (vI 0)]), (vB false)]) ∧ Mem G (fun _ => False) w [] [] w' := by
 refine Rets.enter 11 _ Tryz.func30 rfl Tryz.ntmps30 Tryz.results30 (by simp) ?_
 refine wR ?_
 refine WL.box (v := (vS k)) (c := #[(vS k)]) M rfl rfl rfl (fun b1 w2 hb1 M => ?_)
 refine WL.alloc (c := #[(vS sZ), (vI 0)]) M rfl Tryz.el55.zero rfl (fun b3 w4 hb3 M => ?_)
 refine wA (vB false) (WL.nil (wR (wM vN (wP (Value.func (.func 57) #[] #[(vP b1)]) ?_))))
 refine WL.callX rfl (tr_greatest0 (Value.func (.func 57) #[] #[(vP b1)]) (M.enterW0 trivial)) (CallsF.func Tryz.en56 rfl) ?_
 rintro _ w5 ⟨rfl, m⟩
 replace M := M.leaveW0 m
 clear m
 refine wP (Value.agg #[(vS sZ), (vI 0)]) (wP (vB false) ?_)
 refine WL.store (v := (Value.agg #[(vS sZ), (vI 0)])) (cs := [(vS sZ), (vI 0)]) (c' := #[(vS sZ), (vI 0)]) M 0 rfl rfl Tryz.el55.sized rfl rfl rfl rfl (Nat.le_of_ble_eq_true rfl) (cel_cons rfl (cel_cons rfl cel_nil)) rfl rfl (fun w6 M => ?_)
 refine wA (vB false) (WL.nil ?_)
 refine W.ret ?_
 refine ⟨.inl rfl, (Value.tuple #[(Value.agg #[(vS sZ), (vI 0)]), (vB false)]), ?_, ?_⟩
 · exact ⟨rfl, (Res.r2 (RV.cellN Tryz.ag55 rfl (M.blk 0 rfl) rfl) (show RV _ _ _ (.tmp 5) (vB false) from by exact rfl))⟩
 refine ⟨?_, M.close [] rfl (by decide) trivial⟩
 rfl
theorem T_first0 {G : Nat → Prop} {w : World}    (M : Mem G (fun _ => False) w [] [] w) : Rets Tryz.prog 47 #[vN] w fun r w' => r = (Value.tuple #[(Value.agg #[(vS sZ), (vI 0)]), (vB false)]) ∧ Mem G (fun _ => False) w [] [] w' := by
 refine Rets.enter 8 _ Tryz.func47 rfl Tryz.ntmps47 Tryz.results47 (by simp) ?_
 refine wR ?_
 refine WL.alloc (c := #[(vS sZ), (vI 0)]) M rfl Tryz.el55.zero rfl (fun b1 w2 hb1 M => ?_)
 refine wA (vB false) (WL.nil (wR (wM vN ?_)))
 refine WL.callX rfl (tr_least0 (Value.func (.func 63) #[] #[]) (M.enterW0 trivial)) (CallsF.func Tryz.en54 rfl) ?_
 rintro _ w3 ⟨rfl, m⟩
 replace M := M.leaveW0 m
 clear m
 refine wP (Value.agg #[(vS sZ), (vI 0)]) (wP (vB false) ?_)
 refine WL.store (v := (Value.agg #[(vS sZ), (vI 0)])) (cs := [(vS sZ), (vI 0)]) (c' := #[(vS sZ), (vI 0)]) M 0 rfl rfl Tryz.el55.sized rfl rfl rfl rfl (Nat.le_of_ble_eq_true rfl) (cel_cons rfl (cel_cons rfl cel_nil)) rfl rfl (fun w4 M => ?_)
 refine wA (vB false) (WL.nil ?_)
 refine W.ret ?_
 refine ⟨.inl rfl, (Value.tuple #[(Value.agg #[(vS sZ), (vI 0)]), (vB false)]), ?_, ?_⟩
 · exact ⟨rfl, (Res.r2 (RV.cellN Tryz.ag55 rfl (M.blk 0 rfl) rfl) (show RV _ _ _ (.tmp 3) (vB false) from by exact rfl))⟩
 refine ⟨?_, M.close [] rfl (by decide) trivial⟩
 rfl
theorem T_last0 {G : Nat → Prop} {w : World}    (M : Mem G (fun _ => False) w [] [] w) : Rets Tryz.prog 48 #[vN] w fun r w' => r = (Value.tuple #[(Value.agg #[(vS sZ), (vI 0)]), (vB false)]) ∧ Mem G (fun _ => False) w [] [] w' := by
 refine Rets.enter 8 _ Tryz.func48 rfl Tryz.ntmps48 Tryz.results48 (by simp) ?_
 refine wR ?_
 refine WL.alloc (c := #[(vS sZ), (vI 0)]) M rfl Tryz.el55.zero rfl (fun b1 w2 hb1 M => ?_)
 refine wA (vB false) (WL.nil (wR (wM vN ?_)))
 refine WL.callX rfl (tr_greatest0 (Value.func (.func 64) #[] #[]) (M.enterW0 trivial)) (CallsF.func Tryz.en56 rfl) ?_
 rintro _ w3 ⟨rfl, m⟩
 replace M := M.leaveW0 m
 clear m
 refine wP (Value.agg #[(vS sZ), (vI 0)]) (wP (vB false) ?_)
 refine WL.store (v := (Value.agg #[(vS sZ), (vI 0)])) (cs := [(vS sZ), (vI 0)]) (c' := #[(vS sZ), (vI 0)]) M 0 rfl rfl Tryz.el55.sized rfl rfl rfl rfl (Nat.le_of_ble_eq_true rfl) (cel_cons rfl (cel_cons rfl cel_nil)) rfl rfl (fun w4 M => ?_)
 refine wA (vB false) (WL.nil ?_)
 refine W.ret ?_
 refine ⟨.inl rfl, (Value.tuple #[(Value.agg #[(vS sZ), (vI 0)]), (vB false)]), ?_, ?_⟩
 · exact ⟨rfl, (Res.r2 (RV.cellN Tryz.ag55 rfl (M.blk 0 rfl) rfl) (show RV _ _ _ (.tmp 3) (vB false) from by exact rfl))⟩
 refine ⟨?_, M.close [] rfl (by decide) trivial⟩
 rfl
theorem T_get0 {G : Nat → Prop} {w : World} (k : ByteArray)   (M : Mem G (fun _ => False) w [] [] w) : Rets Tryz.prog 28 #[vN, (vS k)] w fun r w' => r = (Value.tuple #[(vI 0), (vB false)]) ∧ Mem G (fun _ => False) w [] [] w' := by
 refine Rets.enter 24 _ Tryz.func28 rfl Tryz.ntmps28 Tryz.results28 (by simp) ?_
 refine wR (wA (vI 0) (wA (vB false) (WL.nil (wR (wM vN ?_)))))
 refine wM (vS k) ?_
 refine WL.callX rfl (T_from0 k (M.enterW0 trivial)) (CallsF.func Tryz.en29 rfl) ?_
 rintro _ w1 ⟨rfl, m⟩
 replace M := M.leaveW0 m
 clear m
 refine wM (Value.tuple #[(Value.agg #[(vS sZ), (vI 0)]), (vB false)]) (wP (Value.agg #[(vS sZ), (vI 0)]) (wP (vB false) ?_))
 refine WL.alloc (c := #[(vS sZ), (vI 0)]) M rfl Tryz.el55.zero rfl (fun b2 w3 hb2 M => ?_)
 refine WL.store (v := (Value.agg #[(vS sZ), (vI 0)])) (cs := [(vS sZ), (vI 0)]) (c' := #[(vS sZ), (vI 0)]) M 0 rfl rfl Tryz.el55.sized rfl rfl rfl rfl (Nat.le_of_ble_eq_true rfl) (cel_cons rfl (cel_cons rfl cel_nil)) rfl rfl (fun w4 M => ?_)
 refine wA (vB false) (WL.nil (W.seq' (wR (wM (vB false) (wP (vB true) ?_)))))
 refine wM (vB true) ?_
 refine WL.pass rfl ?_
 refine WL.pass rfl ?_
 refine WL.pass rfl ?_
 refine WL.pass rfl ?_
 refine wS (vB true) rfl (Step.pick (t := true) rfl rfl) (WL.nil ?_)
 refine W.cond (t := true) rfl (fun _ => ?_) (fun h => by cases h)
 refine wR (wA (vI 0) (wA (vB false) (WL.nil ?_)))
 refine W.ret ?_
 refine ⟨.inl rfl, (Value.tuple #[(vI 0), (vB false)]), ?_, ?_⟩
 · exact ⟨rfl, (Res.r2 (show RV _ _ _ (.tmp 4) (vI 0) from by exact rfl) (show RV _ _ _ (.tmp 5) (vB false) from by exact rfl))⟩
 refine ⟨?_, M.close [] rfl (by decide) trivial⟩
 rfl
theorem T_delete0 {G : Nat → Prop} {w : World} (k : ByteArray)   (M : Mem G (fun _ => False) w [] [] w) : Rets Tryz.prog 25 #[vN, (vS k)] w fun r w' => r = (Value.tuple #[(vI 0), (vB false)]) ∧ Mem G (fun _ => False) w [] [] w' := by
 refine Rets.enter 71 _ Tryz.func25 rfl Tryz.ntmps25 Tryz.results25 (by simp) ?_
 refine wR (wA (vI 0) (wA (vB false) (WL.nil (wR (wM vN ?_)))))
 refine wM (vS k) ?_
 refine WL.callX rfl (T_get0 k (M.enterW0 trivial)) (CallsF.func Tryz.en28 rfl) ?_
 rintro _ w1 ⟨rfl, m⟩
 replace M := M.leaveW0 m
 clear m
 refine wM (Value.tuple #[(vI 0), (vB false)]) (wP (vI 0) (wP (vB false) (wA (vI 0) (wA (vB false) (WL.nil ?_)))))
 refine W.seq' (wR (wM (vB false) (wP (vB true) (WL.nil ?_))))
 refine W.cond (t := true) rfl (fun _ => ?_) (fun h => by cases h)
 refine wR (wA (vI 0) (wA (vB false) (WL.nil ?_)))
 refine W.ret ?_
 refine ⟨.inl rfl, (Value.tuple #[(vI 0), (vB false)]), ?_, ?_⟩
 · exact ⟨rfl, (Res.r2 (show RV _ _ _ (.tmp 4) (vI 0) from by exact rfl) (show RV _ _ _ (.tmp 5) (vB false) from by exact rfl))⟩
 refine ⟨?_, M.close [] rfl (by decide) trivial⟩
 rfl
end Go.Proofs
namespace Tp
open Go
section
variable {l : List THit} {i : Nat} {x : THit} {k : ByteArray} {p : ByteArray → Bool} {b : THit × Bool} {q : THit → Bool}
theorem find_hit (hx : l[i]? = some x) (hq : q x = true) (hb : ∀ j u, j < i → l[j]? = some u → q u = false) : l.find? q = some x := by
  obtain ⟨h1, rfl⟩ := List.getElem?_eq_some_iff.1 hx
  rw [List.find?_eq_some_iff_getElem]
  exact ⟨hq, i, h1, rfl, fun j hj => by simp [hb j _ hj (List.getElem?_eq_getElem (by omega))]⟩
theorem find_miss (hi : l.length ≤ i) (hb : ∀ j u, j < i → l[j]? = some u → q u = false) : l.find? q = none := by
  refine List.find?_eq_none.2 fun u hu => ?_
  obtain ⟨j, hj⟩ := List.getElem?_of_mem hu
  simp [hb j u (by have := (List.getElem?_eq_some_iff.1 hj).1; omega) hj]
theorem getL_at (hx : l[i]? = some x) (hq : (fun u : THit => decide (u.key = k)) x = true) (hb : ∀ j u, j < i → l[j]? = some u → (fun u : THit => decide (u.key = k)) u = false) : getL l k = (x.val, true) := by
  unfold getL; rw [find_hit hx hq hb]
theorem getL_end (hi : l.length ≤ i) (hb : ∀ j u, j < i → l[j]? = some u → (fun u : THit => decide (u.key = k)) u = false) : getL l k = (0, false) := by
  unfold getL; rw [find_miss hi hb]
theorem firstL_at (hx : l[i]? = some x) (hq : (fun u : THit => p u.key) x = true) (hb : ∀ j u, j < i → l[j]? = some u → (fun u : THit => p u.key) u = false) : firstL l p b = (x, true) := by
  unfold firstL; rw [find_hit hx hq hb]
theorem firstL_end (hi : l.length ≤ i) (hb : ∀ j u, j < i → l[j]? = some u → (fun u : THit => p u.key) u = false) : firstL l p b = b := by
  unfold firstL; rw [find_miss hi hb]
theorem above_stepG (hb : ∀ j u, i ≤ j → l[j]? = some u → q u = false) (hx : l[i - 1]? = some x) (h : q x = false) : ∀ j u, i - 1 ≤ j → l[j]? = some u → q u = false := fun j u hj hu => by
  rcases Nat.lt_or_ge j i with hm | hm
  · have : j = i - 1 := by omega
    subst this; rw [hx] at hu; cases hu; exact h
  · exact hb j u hm hu
theorem lastL_at (hi : 0 < i) (hx : l[i - 1]? = some x) (hq : (fun u : THit => p u.key) x = true) (hb : ∀ j u, i ≤ j → l[j]? = some u → (fun u : THit => p u.key) u = false) : lastL l p b = (x, true) := by
  have h1 := (List.getElem?_eq_some_iff.1 hx).1
  unfold lastL
  refine firstL_at (i := l.length - i) (by rw [List.getElem?_reverse (by omega)]; rw [← hx]; congr 1; omega) hq fun j u hj hu => ?_
  rw [List.getElem?_reverse (by omega)] at hu
  exact hb _ u (by omega) hu
theorem lastL_end (hb : ∀ j u, 0 ≤ j → l[j]? = some u → (fun u : THit => p u.key) u = false) : lastL l p b = b := by
  unfold lastL
  refine firstL_end (i := l.length) (by simp) fun j u hj hu => ?_
  rw [List.getElem?_reverse (by omega)] at hu
  exact hb _ u (by omega) hu
theorem filt_snoc {α : Type} {p : α → Bool} {l : List α} {i : Nat} {x : α} (hx : l[i]? = some x) : (l.take (i + 1)).filter p = (l.take i).filter p ++ if p x then [x] else [] := by
  rw [← take_snoc hx, List.filter_append]; congr 1
  by_cases h : p x <;> simp [h]
theorem filtY {α : Type} {p : α → Bool} {l : List α} {i : Nat} {x : α} (hx : l[i]? = some x) (h : p x = true) : (l.take (i + 1)).filter p = (l.take i).filter p ++ [x] := by rw [filt_snoc hx, h]; rfl
theorem filtN {α : Type} {p : α → Bool} {l : List α} {i : Nat} {x : α} (hx : l[i]? = some x) (h : p x = false) : (l.take (i + 1)).filter p = (l.take i).filter p := by rw [filt_snoc hx, h]; simp
theorem takeW_of {α : Type} {p : α → Bool} : ∀ {l : List α} {i : Nat}, (∀ j u, j < i → l[j]? = some u → p u = true) → (l.length ≤ i ∨ ∃ u, l[i]? = some u ∧ p u = false) → l.takeWhile p = l.take i
  | [], i, _, _ => by simp
  | a :: l, 0, _, h => by
    rcases h with h | ⟨u, h1, h2⟩
    · simp at h
    · simp at h1; subst h1; simp [h2]
  | a :: l, i + 1, hb, h => by
    have ha := hb 0 a (by omega) rfl
    rw [List.takeWhile_cons, if_pos ha, List.take_succ_cons, takeW_of (i := i) (fun j u hj hu => hb (j + 1) u (by omega) hu) (by simpa using h)]
theorem headL_at (hx : l[0]? = some x) : headL l = (x, true) := by cases l <;> simp_all [headL, firstL]
theorem tailL_at (hx : l[l.length - 1]? = some x) : tailL l = (x, true) := by
  unfold tailL lastL firstL
  cases h : l.reverse with
  | nil => simp at h; subst h; simp at hx
  | cons a r =>
    have h2 := congrArg List.reverse h
    rw [List.reverse_reverse, List.reverse_cons] at h2
    rw [h2] at hx
    simp at hx; subst hx
    simp
end
end Tp
namespace Tp
section
variable {d e i a : Nat} {l : List TPl} {t c : BT} {q : Int} {p : TPl} {x y z : ByteArray} {row : List THit} {ks : List ByteArray} {D : Nat}
theorem kidsAt_zero {ts : List BT} : kidsAt d ts q 0 = 0 := by simp [kidsAt]
theorem walk_hit (hpk : p.keys = t.ks.map THit.key) (hx : p.keys[i]? = some x) (hc : t.ts[i]? = some c) :
    (partW (t.ts.map (flatB e)) t.ks (i + 1)).map THit.key = ((partW (t.ts.map (flatB e)) t.ks i).map THit.key ++ (flatB e c).map THit.key) ++ ([x] : List ByteArray) := by
  rw [hpk, List.getElem?_map] at hx
  cases hz : t.ks[i]? with
  | none => rw [hz] at hx; cases hx
  | some z =>
    rw [hz] at hx
    simp at hx
    rw [partW_hit hz (kid_flat hc)]
    simp [hx]
theorem walk_end (hi : t.ks.length ≤ i) (hc : t.ts[i]? = some c) :
    (partW (t.ts.map (flatB e)) t.ks (i + 1)).map THit.key = (partW (t.ts.map (flatB e)) t.ks i).map THit.key ++ (flatB e c).map THit.key := by
  rw [partW_end hi (kid_flat hc)]; simp
theorem walk_room (ho : okB 0 (e + 1) t) (hi : i ≤ t.ks.length) (hc : t.ts[i]? = some c) (hb : (flatB (e + 1) t).length ≤ 400000) :
    ((partW (t.ts.map (flatB e)) t.ks i).map THit.key).length + ((flatB e c).map THit.key).length + 1 ≤ 400001 := by
  have h1 := partW_mono (cs := t.ts.map (flatB e)) (ks := t.ks) (i := i + 1) (j := t.ks.length + 1) (by omega)
  rw [flatB_keys ho, partW_succ, kid_flat hc] at h1
  simp only [List.length_append, List.length_map] at h1 ⊢
  omega
theorem plc_both (hP : PlcOk row l D) (hk : ks = row.map THit.key) : l.length = 0 ↔ ks.length = 0 := by
  rw [hk, List.length_map, List.length_eq_zero_iff, List.length_eq_zero_iff]; exact hP.both
theorem keys_up {j : Nat} (hu : upT row) (hz : (row.map THit.key)[i]? = some z) (hx : (row.map THit.key)[j]? = some x) (h : i < j) : sLt z x = true := by
  rw [List.getElem?_map] at hz hx
  cases h1 : row[i]? with
  | none => rw [h1] at hz; cases hz
  | some u =>
    cases h2 : row[j]? with
    | none => rw [h2] at hx; cases hx
    | some v =>
      rw [h1] at hz; rw [h2] at hx
      simp at hz hx
      rw [← hz, ← hx]
      exact up_yes hu h1 h2 h
end
end Tp
namespace Tp
theorem walk_deep {d : Nat} {t : BT} {l : List TPl} {row : List THit} (hW : walkOk d l 0 t 1) (hr : row = flatB d t) (hb : row.length ≤ 400000) : d ≤ 400000 := by
  obtain ⟨ho, _⟩ := hW
  subst hr
  have : ∀ {d : Nat} {t : BT}, okB 0 d t → d ≤ (flatB d t).length := by
    intro d t ho
    cases d with
    | zero => omega
    | succ d =>
      obtain ⟨h, ks, ts⟩ := t
      obtain ⟨o1, o2, o3, o4⟩ := ok_mk.1 ho
      cases ts with
      | nil => simp at o3
      | cons c ts =>
        have h1 := flat_deep (o4 c (by simp)) (show 1 ≤ 2 by omega)
        have h2 : (flatB d c).length ≤ (flatB (d + 1) (.mk h ks (c :: ts))).length := by
          show _ ≤ (weave ((c :: ts).map (flatB d)) ks).length
          cases ks with
          | nil => simp [weave]
          | cons k ks => simp [weave]
        omega
  have := this ho
  omega
end Tp
set_option maxRecDepth 100000
namespace Go.Proofs
open Go Tp
theorem Tryz.un35 : Und Tryz.prog 35 (.slice 81) := by unfold Und; kernel_rfl
theorem Tryz.ag81 : Aggr Tryz.prog 81 2 := ⟨fun _ => by kernel_rfl, fun _ => by kernel_rfl⟩
theorem Tryz.el81 : Elem Tryz.prog 81 (Value.agg #[(vS sZ), (vI 0)]) 2 24 := Elem.mk (by kernel_rfl)
abbrev oQ (v : Value) (xs : List THit) : Chunk := own 81 2 v xs.length (xs.flatMap hitE)
theorem r_get {G : Nat → Prop} {w : World} (v : Value) (l : List THit) (k : ByteArray)   (M : Mem G (fun _ => False) w [] [fR v l] w) : Rets Tryz.prog 26 #[v, (vS k)] w fun r w' => r = (Value.tuple #[(vI ((getL l k).1)), (vB ((getL l k).2))]) ∧ Mem G (fun _ => False) w [] [] w' := by
 refine Rets.enter 25 _ Tryz.func26 rfl Tryz.ntmps26 Tryz.results26 (by simp) ?_
 have hle1 := SlAt.le' (M.rep 0 rfl)
 have sl2 : IsSl v := SlAt.isSl (Mem.rep M 0 rfl)
 refine wR (wA (vI 0) (wA (vB false) (WL.nil (W.seq' (wR ?_)))))
 refine wA (vI 0) (WL.nil (W.block ?_))
 refine W.loop (fun kk ρ w' => ∃ (i_ : Nat), ((i_ ≤ l.length) ∧ (∀ j u, j < i_ → l[j]? = some u → (fun u : THit => decide (u.key = k)) u = false) ∧ kk = l.length - i_) ∧ ρ.has [(0, v), (1, (vS k)), (6, (vI ↑i_))] ∧ Mem G (fun _ => False) w [] [fR v l]  w') _ ⟨0, ⟨(Nat.zero_le _), (fun _ _ h => absurd h (Nat.not_lt_zero _)), rfl⟩, ⟨rfl, rfl, rfl, rfl, rfl⟩, M⟩ ?_
 rintro _ ρ4 w3 ⟨i_, ⟨hi5, hi6, rfl⟩, hρ, M⟩
 obtain ⟨ρ4, rfl⟩ := hρ.know
 clear hρ
 refine W.seq' (wR (wM (vI ↑i_) (wM v (wS (vI ↑l.length) rfl (Step.lenSl Tryz.un35 rfl (M.rep 0 rfl)) (wP (vB (decide ((↑i_ : Int) < (↑l.length : Int)))) ?_)))))
 refine WL.nil ?_
 refine W.cond (t := decide ((↑i_ : Int) < (↑l.length : Int))) rfl (fun h7 => ?_) (fun h7 => ?_)
 ·
  have h7p := of_decide_eq_true h7
  refine W.skip (W.seq' (W.block (wR (wM v (wM (vI ↑i_) ?_)))))
  obtain ⟨cap9, hb8⟩ := SlAt.base (M.rep 0 rfl) (by omega)
  obtain ⟨x10, hx10⟩ := elem_of_lt (xs := l) (i := i_) (by omega)
  refine wS (vQ v i_ 2) rfl (sX i_ Tryz.un35 Tryz.el81 rfl rfl hb8) (wP (vQ v i_ 2) (wS (vS x10.key) rfl (Step.loadE (k := 0) Tryz.sc9 (flat_ec (M.rep 0 rfl) hx10 hitE_len) (by decide) rfl rfl) (wM (vS k) (wP (vB (x10.key.toList == k.toList)) (WL.nil ?_)))))
  refine W.cond (t := x10.key.toList == k.toList) rfl (fun h11 => ?_) (fun h11 => ?_)
  ·
   refine wR (wM v (wM (vI ↑i_) (wS (vQ v i_ 2) rfl (sX i_ Tryz.un35 Tryz.el81 rfl rfl hb8) (wP (vR v i_ 2 1) (wS (vI x10.val) rfl (Step.loadE (k := 1) Tryz.sc3 (flat_ec (M.rep 0 rfl) hx10 hitE_len) (by decide) rfl rfl) ?_)))))
   refine wA (vI x10.val) (wA (vB true) (WL.nil ?_))
   refine W.ret ?_
   refine ⟨.inl rfl, (Value.tuple #[(vI x10.val), (vB true)]), ?_, ?_⟩
   · exact ⟨rfl, (Res.r2 (show RV _ _ _ (.tmp 4) (vI x10.val) from by exact rfl) (show RV _ _ _ (.tmp 5) (vB true) from by exact rfl))⟩
   refine ⟨?_, M.close [] rfl (by decide) trivial⟩
   rw [getL_at hx10 (by simpa [sEq_dec] using h11) hi6]
  ·
   refine W.skip (W.region rfl (wM (vI ↑i_) (wS (vI (↑i_ + 1)) rfl (Step.add rfl rfl (wrap_i64 (by omega))) (wA (vI (↑i_ + 1)) (WL.nil ?_)))))
   exact ⟨_, (by omega), i_ + 1, ⟨(by omega), (below_stepG hi6 hx10 (by simpa [sEq_dec] using h11)), rfl⟩, ⟨rfl, rfl, rfl, rfl, rfl⟩, M⟩
 ·
  have h7p := of_decide_eq_false h7
  refine W.exit ?_
  refine thn_exit ?_
  refine thn_exit ?_
  refine inBlk_hit ?_
  refine wR (wA (vI 0) (wA (vB false) (WL.nil ?_)))
  refine W.ret ?_
  refine ⟨.inl rfl, (Value.tuple #[(vI 0), (vB false)]), ?_, ?_⟩
  · exact ⟨rfl, (Res.r2 (show RV _ _ _ (.tmp 4) (vI 0) from by exact rfl) (show RV _ _ _ (.tmp 5) (vB false) from by exact rfl))⟩
  refine ⟨?_, M.close [] rfl (by decide) trivial⟩
  rw [getL_end (by omega) hi6]
theorem r_from {G : Nat → Prop} {w : World} (v : Value) (l : List THit) (k : ByteArray)   (M : Mem G (fun _ => False) w [] [fR v l] w) : Rets Tryz.prog 41 #[v, (vS k)] w fun r w' => r = (Value.tuple #[(Value.agg #[(vS (((fromL l k).1).key)), (vI (((fromL l k).1).val))]), (vB ((fromL l k).2))]) ∧ Mem G (fun _ => False) w [] [] w' := by
 refine Rets.enter 25 _ Tryz.func41 rfl Tryz.ntmps41 Tryz.results41 (by simp) ?_
 have hle1 := SlAt.le' (M.rep 0 rfl)
 have sl2 : IsSl v := SlAt.isSl (Mem.rep M 0 rfl)
 refine wR ?_
 refine WL.alloc (c := #[(vS sZ), (vI 0)]) M rfl Tryz.el81.zero rfl (fun b3 w4 hb3 M => ?_)
 refine wA (vB false) (WL.nil (W.seq' (wR (wA (vI 0) (WL.nil ?_)))))
 refine W.block ?_
 refine W.loop (fun kk ρ w' => ∃ (i_ : Nat), ((i_ ≤ l.length) ∧ (∀ j u, j < i_ → l[j]? = some u → (fun u : THit => !(sLt u.key k)) u = false) ∧ kk = l.length - i_) ∧ ρ.has [(0, v), (1, (vS k)), (4, (vP b3)), (6, (vI ↑i_))] ∧ Mem G (fun _ => False) w [bk b3 #[(vS sZ), (vI 0)] 81] [fR v l]  w') _ ⟨0, ⟨(Nat.zero_le _), (fun _ _ h => absurd h (Nat.not_lt_zero _)), rfl⟩, ⟨rfl, rfl, rfl, rfl, rfl, rfl⟩, M⟩ ?_
 rintro _ ρ6 w5 ⟨i_, ⟨hi7, hi8, rfl⟩, hρ, M⟩
 obtain ⟨ρ6, rfl⟩ := hρ.know
 clear hρ
 refine W.seq' (wR (wM (vI ↑i_) (wM v (wS (vI ↑l.length) rfl (Step.lenSl Tryz.un35 rfl (M.rep 0 rfl)) (wP (vB (decide ((↑i_ : Int) < (↑l.length : Int)))) ?_)))))
 refine WL.nil ?_
 refine W.cond (t := decide ((↑i_ : Int) < (↑l.length : Int))) rfl (fun h9 => ?_) (fun h9 => ?_)
 ·
  have h9p := of_decide_eq_true h9
  refine W.skip (W.seq' (W.block (wR (wM v (wM (vI ↑i_) ?_)))))
  obtain ⟨cap11, hb10⟩ := SlAt.base (M.rep 0 rfl) (by omega)
  obtain ⟨x12, hx12⟩ := elem_of_lt (xs := l) (i := i_) (by omega)
  refine wS (vQ v i_ 2) rfl (sX i_ Tryz.un35 Tryz.el81 rfl rfl hb10) (wP (vQ v i_ 2) (wS (vS x12.key) rfl (Step.loadE (k := 0) Tryz.sc9 (flat_ec (M.rep 0 rfl) hx12 hitE_len) (by decide) rfl rfl) (wM (vS k) (wP (vB (!(sLt x12.key k))) (WL.nil ?_)))))
  refine W.cond (t := !(sLt x12.key k)) rfl (fun h13 => ?_) (fun h13 => ?_)
  ·
   refine wR (wM v (wM (vI ↑i_) (wS (vQ v i_ 2) rfl (sX i_ Tryz.un35 Tryz.el81 rfl rfl hb10) (wS (Value.agg #[(vS x12.key), (vI x12.val)]) rfl (Step.loadEN (k := 0) (cs' := [(vS x12.key), (vI x12.val)]) Tryz.ag81 (flat_ec (M.rep 0 rfl) hx12 hitE_len) (by decide) rfl rfl rfl) ?_))))
   refine WL.store (v := (Value.agg #[(vS x12.key), (vI x12.val)])) (cs := [(vS x12.key), (vI x12.val)]) (c' := #[(vS x12.key), (vI x12.val)]) M 0 rfl rfl Tryz.el81.sized rfl rfl rfl rfl (Nat.le_of_ble_eq_true rfl) (cel_cons rfl (cel_cons rfl cel_nil)) rfl rfl (fun w14 M => ?_)
   refine wA (vB true) (WL.nil ?_)
   refine W.ret ?_
   refine ⟨.inl rfl, (Value.tuple #[(Value.agg #[(vS x12.key), (vI x12.val)]), (vB true)]), ?_, ?_⟩
   · exact ⟨rfl, (Res.r2 (RV.cellN Tryz.ag81 rfl (M.blk 0 rfl) rfl) (show RV _ _ _ (.tmp 5) (vB true) from by exact rfl))⟩
   refine ⟨?_, M.close [] rfl (by decide) trivial⟩
   rw [show (fromL l k) = (x12, true) from firstL_at hx12 (by have h_ := h13; simpa [sGt, sLe] using h_) hi8]
  ·
   refine W.skip (W.region rfl (wM (vI ↑i_) (wS (vI (↑i_ + 1)) rfl (Step.add rfl rfl (wrap_i64 (by omega))) (wA (vI (↑i_ + 1)) (WL.nil ?_)))))
   exact ⟨_, (by omega), i_ + 1, ⟨(by omega), (below_stepG hi8 hx12 (by have h_ := h13; simpa [sGt, sLe] using h_)), rfl⟩, ⟨rfl, rfl, rfl, rfl, rfl, rfl⟩, M⟩
 ·
  have h9p := of_decide_eq_false h9
  refine W.exit ?_
  refine thn_exit ?_
  refine thn_exit ?_
  refine inBlk_hit ?_
  refine wR (wP (Value.agg #[(vS sZ), (vI 0)]) ?_)
  refine WL.store (v := (Value.agg #[(vS sZ), (vI 0)])) (cs := [(vS sZ), (vI 0)]) (c' := #[(vS sZ), (vI 0)]) M 0 rfl rfl Tryz.el81.sized rfl rfl rfl rfl (Nat.le_of_ble_eq_true rfl) (cel_cons rfl (cel_cons rfl cel_nil)) rfl rfl (fun w15 M => ?_)
  refine wA (vB false) (WL.nil ?_)
  refine W.ret ?_
  refine ⟨.inl rfl, (Value.tuple #[(Value.agg #[(vS sZ), (vI 0)]), (vB false)]), ?_, ?_⟩
  · exact ⟨rfl, (Res.r2 (RV.cellN Tryz.ag81 rfl (M.blk 0 rfl) rfl) (show RV _ _ _ (.tmp 5) (vB false) from by exact rfl))⟩
  refine ⟨?_, M.close [] rfl (by decide) trivial⟩
  rw [show (fromL l k) = noHit from firstL_end (by omega) hi8]; try rfl
theorem r_after {G : Nat → Prop} {w : World} (v : Value) (l : List THit) (k : ByteArray)   (M : Mem G (fun _ => False) w [] [fR v l] w) : Rets Tryz.prog 43 #[v, (vS k)] w fun r w' => r = (Value.tuple #[(Value.agg #[(vS (((afterL l k).1).key)), (vI (((afterL l k).1).val))]), (vB ((afterL l k).2))]) ∧ Mem G (fun _ => False) w [] [] w' := by
 refine Rets.enter 25 _ Tryz.func43 rfl Tryz.ntmps43 Tryz.results43 (by simp) ?_
 have hle1 := SlAt.le' (M.rep 0 rfl)
 have sl2 : IsSl v := SlAt.isSl (Mem.rep M 0 rfl)
 refine wR ?_
 refine WL.alloc (c := #[(vS sZ), (vI 0)]) M rfl Tryz.el81.zero rfl (fun b3 w4 hb3 M => ?_)
 refine wA (vB false) (WL.nil (W.seq' (wR (wA (vI 0) (WL.nil ?_)))))
 refine W.block ?_
 refine W.loop (fun kk ρ w' => ∃ (i_ : Nat), ((i_ ≤ l.length) ∧ (∀ j u, j < i_ → l[j]? = some u → (fun u : THit => sLt k u.key) u = false) ∧ kk = l.length - i_) ∧ ρ.has [(0, v), (1, (vS k)), (4, (vP b3)), (6, (vI ↑i_))] ∧ Mem G (fun _ => False) w [bk b3 #[(vS sZ), (vI 0)] 81] [fR v l]  w') _ ⟨0, ⟨(Nat.zero_le _), (fun _ _ h => absurd h (Nat.not_lt_zero _)), rfl⟩, ⟨rfl, rfl, rfl, rfl, rfl, rfl⟩, M⟩ ?_
 rintro _ ρ6 w5 ⟨i_, ⟨hi7, hi8, rfl⟩, hρ, M⟩
 obtain ⟨ρ6, rfl⟩ := hρ.know
 clear hρ
 refine W.seq' (wR (wM (vI ↑i_) (wM v (wS (vI ↑l.length) rfl (Step.lenSl Tryz.un35 rfl (M.rep 0 rfl)) (wP (vB (decide ((↑i_ : Int) < (↑l.length : Int)))) ?_)))))
 refine WL.nil ?_
 refine W.cond (t := decide ((↑i_ : Int) < (↑l.length : Int))) rfl (fun h9 => ?_) (fun h9 => ?_)
 ·
  have h9p := of_decide_eq_true h9
  refine W.skip (W.seq' (W.block (wR (wM v (wM (vI ↑i_) ?_)))))
  obtain ⟨cap11, hb10⟩ := SlAt.base (M.rep 0 rfl) (by omega)
  obtain ⟨x12, hx12⟩ := elem_of_lt (xs := l) (i := i_) (by omega)
  refine wS (vQ v i_ 2) rfl (sX i_ Tryz.un35 Tryz.el81 rfl rfl hb10) (wP (vQ v i_ 2) (wS (vS x12.key) rfl (Step.loadE (k := 0) Tryz.sc9 (flat_ec (M.rep 0 rfl) hx12 hitE_len) (by decide) rfl rfl) (wM (vS k) (wP (vB (!(sLt x12.key k || x12.key.toList == k.toList))) (WL.nil ?_)))))
  refine W.cond (t := !(sLt x12.key k || x12.key.toList == k.toList)) rfl (fun h13 => ?_) (fun h13 => ?_)
  ·
   refine wR (wM v (wM (vI ↑i_) (wS (vQ v i_ 2) rfl (sX i_ Tryz.un35 Tryz.el81 rfl rfl hb10) (wS (Value.agg #[(vS x12.key), (vI x12.val)]) rfl (Step.loadEN (k := 0) (cs' := [(vS x12.key), (vI x12.val)]) Tryz.ag81 (flat_ec (M.rep 0 rfl) hx12 hitE_len) (by decide) rfl rfl rfl) ?_))))
   refine WL.store (v := (Value.agg #[(vS x12.key), (vI x12.val)])) (cs := [(vS x12.key), (vI x12.val)]) (c' := #[(vS x12.key), (vI x12.val)]) M 0 rfl rfl Tryz.el81.sized rfl rfl rfl rfl (Nat.le_of_ble_eq_true rfl) (cel_cons rfl (cel_cons rfl cel_nil)) rfl rfl (fun w14 M => ?_)
   refine wA (vB true) (WL.nil ?_)
   refine W.ret ?_
   refine ⟨.inl rfl, (Value.tuple #[(Value.agg #[(vS x12.key), (vI x12.val)]), (vB true)]), ?_, ?_⟩
   · exact ⟨rfl, (Res.r2 (RV.cellN Tryz.ag81 rfl (M.blk 0 rfl) rfl) (show RV _ _ _ (.tmp 5) (vB true) from by exact rfl))⟩
   refine ⟨?_, M.close [] rfl (by decide) trivial⟩
   rw [show (afterL l k) = (x12, true) from firstL_at hx12 (by have h_ := h13; simpa [sGt, sLe] using h_) hi8]
  ·
   refine W.skip (W.region rfl (wM (vI ↑i_) (wS (vI (↑i_ + 1)) rfl (Step.add rfl rfl (wrap_i64 (by omega))) (wA (vI (↑i_ + 1)) (WL.nil ?_)))))
   exact ⟨_, (by omega), i_ + 1, ⟨(by omega), (below_stepG hi8 hx12 (by have h_ := h13; simpa [sGt, sLe] using h_)), rfl⟩, ⟨rfl, rfl, rfl, rfl, rfl, rfl⟩, M⟩
 ·
  have h9p := of_decide_eq_false h9
  refine W.exit ?_
  refine thn_exit ?_
  refine thn_exit ?_
  refine inBlk_hit ?_
  refine wR (wP (Value.agg #[(vS sZ), (vI 0)]) ?_)
  refine WL.store (v := (Value.agg #[(vS sZ), (vI 0)])) (cs := [(vS sZ), (vI 0)]) (c' := #[(vS sZ), (vI 0)]) M 0 rfl rfl Tryz.el81.sized rfl rfl rfl rfl (Nat.le_of_ble_eq_true rfl) (cel_cons rfl (cel_cons rfl cel_nil)) rfl rfl (fun w15 M => ?_)
  refine wA (vB false) (WL.nil ?_)
  refine W.ret ?_
  refine ⟨.inl rfl, (Value.tuple #[(Value.agg #[(vS sZ), (vI 0)]), (vB false)]), ?_, ?_⟩
  · exact ⟨rfl, (Res.r2 (RV.cellN Tryz.ag81 rfl (M.blk 0 rfl) rfl) (show RV _ _ _ (.tmp 5) (vB false) from by exact rfl))⟩
  refine ⟨?_, M.close [] rfl (by decide) trivial⟩
  rw [show (afterL l k) = noHit from firstL_end (by omega) hi8]; try rfl
theorem r_upto {G : Nat → Prop} {w : World} (v : Value) (l : List THit) (k : ByteArray)   (M : Mem G (fun _ => False) w [] [fR v l] w) : Rets Tryz.prog 45 #[v, (vS k)] w fun r w' => r = (Value.tuple #[(Value.agg #[(vS (((uptoL l k).1).key)), (vI (((uptoL l k).1).val))]), (vB ((uptoL l k).2))]) ∧ Mem G (fun _ => False) w [] [] w' := by
 refine Rets.enter 26 _ Tryz.func45 rfl Tryz.ntmps45 Tryz.results45 (by simp) ?_
 have hle1 := SlAt.le' (M.rep 0 rfl)
 have sl2 : IsSl v := SlAt.isSl (Mem.rep M 0 rfl)
 refine wR ?_
 refine WL.alloc (c := #[(vS sZ), (vI 0)]) M rfl Tryz.el81.zero rfl (fun b3 w4 hb3 M => ?_)
 refine wA (vB false) (WL.nil (W.seq' (wR (wM v (wS (vI ↑l.length) rfl (Step.lenSl Tryz.un35 rfl (M.rep 0 rfl)) ?_)))))
 refine wS (vI ((↑l.length : Int) - 1)) rfl (Step.sub rfl rfl (wrap_i64 (by omega))) (wA (vI ((↑l.length : Int) - 1)) (WL.nil (W.block ?_)))
 refine W.loop (fun kk ρ w' => ∃ (m_ : Nat), ((m_ ≤ l.length) ∧ (∀ j u, m_ ≤ j → l[j]? = some u → (fun u : THit => !(sLt k u.key)) u = false) ∧ kk = m_ + 1) ∧ ρ.has [(0, v), (1, (vS k)), (4, (vP b3)), (6, (vI ((↑m_ : Int) - 1)))] ∧ Mem G (fun _ => False) w [bk b3 #[(vS sZ), (vI 0)] 81] [fR v l]  w') _ ⟨l.length, ⟨(Nat.le_refl _), (fun j u hj hu => absurd (List.getElem?_eq_some_iff.1 hu).1 (by omega)), rfl⟩, ⟨rfl, rfl, rfl, rfl, rfl, rfl⟩, M⟩ ?_
 rintro _ ρ6 w5 ⟨m_, ⟨hi7, hi8, rfl⟩, hρ, M⟩
 obtain ⟨ρ6, rfl⟩ := hρ.know
 clear hρ
 refine W.seq' (wR (wM (vI ((↑m_ : Int) - 1)) (wP (vB (decide (((↑m_ : Int) - 1 : Int) ≥ (0 : Int)))) (WL.nil ?_))))
 refine W.cond (t := decide (((↑m_ : Int) - 1 : Int) ≥ (0 : Int))) rfl (fun h9 => ?_) (fun h9 => ?_)
 ·
  have h9p := of_decide_eq_true h9
  refine W.skip (W.seq' (W.block (wR (wM v (wM (vI ((↑m_ : Int) - 1)) ?_)))))
  obtain ⟨cap11, hb10⟩ := SlAt.base (M.rep 0 rfl) (by omega)
  obtain ⟨x12, hx12⟩ := elem_of_lt (xs := l) (i := m_ - 1) (by omega)
  refine wS (vQ v (m_ - 1) 2) rfl (sX (m_ - 1) Tryz.un35 Tryz.el81 rfl rfl hb10) (wP (vQ v (m_ - 1) 2) (wS (vS x12.key) rfl (Step.loadE (k := 0) Tryz.sc9 (flat_ec (M.rep 0 rfl) hx12 hitE_len) (by decide) rfl rfl) (wM (vS k) (wP (vB (sLt x12.key k || x12.key.toList == k.toList)) (WL.nil ?_)))))
  refine W.cond (t := sLt x12.key k || x12.key.toList == k.toList) rfl (fun h13 => ?_) (fun h13 => ?_)
  ·
   refine wR (wM v (wM (vI ((↑m_ : Int) - 1)) (wS (vQ v (m_ - 1) 2) rfl (sX (m_ - 1) Tryz.un35 Tryz.el81 rfl rfl hb10) (wS (Value.agg #[(vS x12.key), (vI x12.val)]) rfl (Step.loadEN (k := 0) (cs' := [(vS x12.key), (vI x12.val)]) Tryz.ag81 (flat_ec (M.rep 0 rfl) hx12 hitE_len) (by decide) rfl rfl rfl) ?_))))
   refine WL.store (v := (Value.agg #[(vS x12.key), (vI x12.val)])) (cs := [(vS x12.key), (vI x12.val)]) (c' := #[(vS x12.key), (vI x12.val)]) M 0 rfl rfl Tryz.el81.sized rfl rfl rfl rfl (Nat.le_of_ble_eq_true rfl) (cel_cons rfl (cel_cons rfl cel_nil)) rfl rfl (fun w14 M => ?_)
   refine wA (vB true) (WL.nil ?_)
   refine W.ret ?_
   refine ⟨.inl rfl, (Value.tuple #[(Value.agg #[(vS x12.key), (vI x12.val)]), (vB true)]), ?_, ?_⟩
   · exact ⟨rfl, (Res.r2 (RV.cellN Tryz.ag81 rfl (M.blk 0 rfl) rfl) (show RV _ _ _ (.tmp 5) (vB true) from by exact rfl))⟩
   refine ⟨?_, M.close [] rfl (by decide) trivial⟩
   rw [show (uptoL l k) = (x12, true) from lastL_at (by omega) hx12 (by have h_ := h13; simpa [sGt, sLe] using h_) hi8]
  ·
   refine W.skip (W.region rfl (wM (vI ((↑m_ : Int) - 1)) (wS (vI ((↑(m_ - 1) : Int) - 1)) rfl (Step.cast (congrArg (Value.int .i64) (by omega)) (Step.sub rfl rfl (wrap_i64 (by omega)))) (wS (vI ((↑(m_ - 1) : Int) - 1)) rfl (Step.cast (congrArg (Value.int .i64) (by omega)) (Step.assign rfl)) (WL.nil ?_)))))
   exact ⟨_, (by omega), m_ - 1, ⟨(by omega), (above_stepG hi8 hx12 (by have h_ := h13; simpa [sGt, sLe] using h_)), rfl⟩, ⟨rfl, rfl, rfl, rfl, rfl, rfl⟩, M⟩
 ·
  have h9p := of_decide_eq_false h9
  refine W.exit ?_
  refine thn_exit ?_
  refine thn_exit ?_
  refine inBlk_hit ?_
  refine wR (wP (Value.agg #[(vS sZ), (vI 0)]) ?_)
  refine WL.store (v := (Value.agg #[(vS sZ), (vI 0)])) (cs := [(vS sZ), (vI 0)]) (c' := #[(vS sZ), (vI 0)]) M 0 rfl rfl Tryz.el81.sized rfl rfl rfl rfl (Nat.le_of_ble_eq_true rfl) (cel_cons rfl (cel_cons rfl cel_nil)) rfl rfl (fun w15 M => ?_)
  refine wA (vB false) (WL.nil ?_)
  refine W.ret ?_
  refine ⟨.inl rfl, (Value.tuple #[(Value.agg #[(vS sZ), (vI 0)]), (vB false)]), ?_, ?_⟩
  · exact ⟨rfl, (Res.r2 (RV.cellN Tryz.ag81 rfl (M.blk 0 rfl) rfl) (show RV _ _ _ (.tmp 5) (vB false) from by exact rfl))⟩
  refine ⟨?_, M.close [] rfl (by decide) trivial⟩
  rw [show (uptoL l k) = noHit from lastL_end fun j u _ hu => hi8 j u (by omega) hu]; try rfl
theorem r_before {G : Nat → Prop} {w : World} (v : Value) (l : List THit) (k : ByteArray)   (M : Mem G (fun _ => False) w [] [fR v l] w) : Rets Tryz.prog 46 #[v, (vS k)] w fun r w' => r = (Value.tuple #[(Value.agg #[(vS (((beforeL l k).1).key)), (vI (((beforeL l k).1).val))]), (vB ((beforeL l k).2))]) ∧ Mem G (fun _ => False) w [] [] w' := by
 refine Rets.enter 26 _ Tryz.func46 rfl Tryz.ntmps46 Tryz.results46 (by simp) ?_
 have hle1 := SlAt.le' (M.rep 0 rfl)
 have sl2 : IsSl v := SlAt.isSl (Mem.rep M 0 rfl)
 refine wR ?_
 refine WL.alloc (c := #[(vS sZ), (vI 0)]) M rfl Tryz.el81.zero rfl (fun b3 w4 hb3 M => ?_)
 refine wA (vB false) (WL.nil (W.seq' (wR (wM v (wS (vI ↑l.length) rfl (Step.lenSl Tryz.un35 rfl (M.rep 0 rfl)) ?_)))))
 refine wS (vI ((↑l.length : Int) - 1)) rfl (Step.sub rfl rfl (wrap_i64 (by omega))) (wA (vI ((↑l.length : Int) - 1)) (WL.nil (W.block ?_)))
 refine W.loop (fun kk ρ w' => ∃ (m_ : Nat), ((m_ ≤ l.length) ∧ (∀ j u, m_ ≤ j → l[j]? = some u → (fun u : THit => sLt u.key k) u = false) ∧ kk = m_ + 1) ∧ ρ.has [(0, v), (1, (vS k)), (4, (vP b3)), (6, (vI ((↑m_ : Int) - 1)))] ∧ Mem G (fun _ => False) w [bk b3 #[(vS sZ), (vI 0)] 81] [fR v l]  w') _ ⟨l.length, ⟨(Nat.le_refl _), (fun j u hj hu => absurd (List.getElem?_eq_some_iff.1 hu).1 (by omega)), rfl⟩, ⟨rfl, rfl, rfl, rfl, rfl, rfl⟩, M⟩ ?_
 rintro _ ρ6 w5 ⟨m_, ⟨hi7, hi8, rfl⟩, hρ, M⟩
 obtain ⟨ρ6, rfl⟩ := hρ.know
 clear hρ
 refine W.seq' (wR (wM (vI ((↑m_ : Int) - 1)) (wP (vB (decide (((↑m_ : Int) - 1 : Int) ≥ (0 : Int)))) (WL.nil ?_))))
 refine W.cond (t := decide (((↑m_ : Int) - 1 : Int) ≥ (0 : Int))) rfl (fun h9 => ?_) (fun h9 => ?_)
 ·
  have h9p := of_decide_eq_true h9
  refine W.skip (W.seq' (W.block (wR (wM v (wM (vI ((↑m_ : Int) - 1)) ?_)))))
  obtain ⟨cap11, hb10⟩ := SlAt.base (M.rep 0 rfl) (by omega)
  obtain ⟨x12, hx12⟩ := elem_of_lt (xs := l) (i := m_ - 1) (by omega)
  refine wS (vQ v (m_ - 1) 2) rfl (sX (m_ - 1) Tryz.un35 Tryz.el81 rfl rfl hb10) (wP (vQ v (m_ - 1) 2) (wS (vS x12.key) rfl (Step.loadE (k := 0) Tryz.sc9 (flat_ec (M.rep 0 rfl) hx12 hitE_len) (by decide) rfl rfl) (wM (vS k) (wP (vB (sLt x12.key k)) (WL.nil ?_)))))
  refine W.cond (t := sLt x12.key k) rfl (fun h13 => ?_) (fun h13 => ?_)
  ·
   refine wR (wM v (wM (vI ((↑m_ : Int) - 1)) (wS (vQ v (m_ - 1) 2) rfl (sX (m_ - 1) Tryz.un35 Tryz.el81 rfl rfl hb10) (wS (Value.agg #[(vS x12.key), (vI x12.val)]) rfl (Step.loadEN (k := 0) (cs' := [(vS x12.key), (vI x12.val)]) Tryz.ag81 (flat_ec (M.rep 0 rfl) hx12 hitE_len) (by decide) rfl rfl rfl) ?_))))
   refine WL.store (v := (Value.agg #[(vS x12.key), (vI x12.val)])) (cs := [(vS x12.key), (vI x12.val)]) (c' := #[(vS x12.key), (vI x12.val)]) M 0 rfl rfl Tryz.el81.sized rfl rfl rfl rfl (Nat.le_of_ble_eq_true rfl) (cel_cons rfl (cel_cons rfl cel_nil)) rfl rfl (fun w14 M => ?_)
   refine wA (vB true) (WL.nil ?_)
   refine W.ret ?_
   refine ⟨.inl rfl, (Value.tuple #[(Value.agg #[(vS x12.key), (vI x12.val)]), (vB true)]), ?_, ?_⟩
   · exact ⟨rfl, (Res.r2 (RV.cellN Tryz.ag81 rfl (M.blk 0 rfl) rfl) (show RV _ _ _ (.tmp 5) (vB true) from by exact rfl))⟩
   refine ⟨?_, M.close [] rfl (by decide) trivial⟩
   rw [show (beforeL l k) = (x12, true) from lastL_at (by omega) hx12 (by have h_ := h13; simpa [sGt, sLe] using h_) hi8]
  ·
   refine W.skip (W.region rfl (wM (vI ((↑m_ : Int) - 1)) (wS (vI ((↑(m_ - 1) : Int) - 1)) rfl (Step.cast (congrArg (Value.int .i64) (by omega)) (Step.sub rfl rfl (wrap_i64 (by omega)))) (wS (vI ((↑(m_ - 1) : Int) - 1)) rfl (Step.cast (congrArg (Value.int .i64) (by omega)) (Step.assign rfl)) (WL.nil ?_)))))
   exact ⟨_, (by omega), m_ - 1, ⟨(by omega), (above_stepG hi8 hx12 (by have h_ := h13; simpa [sGt, sLe] using h_)), rfl⟩, ⟨rfl, rfl, rfl, rfl, rfl, rfl⟩, M⟩
 ·
  have h9p := of_decide_eq_false h9
  refine W.exit ?_
  refine thn_exit ?_
  refine thn_exit ?_
  refine inBlk_hit ?_
  refine wR (wP (Value.agg #[(vS sZ), (vI 0)]) ?_)
  refine WL.store (v := (Value.agg #[(vS sZ), (vI 0)])) (cs := [(vS sZ), (vI 0)]) (c' := #[(vS sZ), (vI 0)]) M 0 rfl rfl Tryz.el81.sized rfl rfl rfl rfl (Nat.le_of_ble_eq_true rfl) (cel_cons rfl (cel_cons rfl cel_nil)) rfl rfl (fun w15 M => ?_)
  refine wA (vB false) (WL.nil ?_)
  refine W.ret ?_
  refine ⟨.inl rfl, (Value.tuple #[(Value.agg #[(vS sZ), (vI 0)]), (vB false)]), ?_, ?_⟩
  · exact ⟨rfl, (Res.r2 (RV.cellN Tryz.ag81 rfl (M.blk 0 rfl) rfl) (show RV _ _ _ (.tmp 5) (vB false) from by exact rfl))⟩
  refine ⟨?_, M.close [] rfl (by decide) trivial⟩
  rw [show (beforeL l k) = noHit from lastL_end fun j u _ hu => hi8 j u (by omega) hu]; try rfl
theorem r_delete {G : Nat → Prop} {w : World} (v : Value) (l : List THit) (k : ByteArray)  (hb : l.length ≤ 400000) (M : Mem G (fun _ => False) w [] [fR v l] w) : Rets Tryz.prog 27 #[v, (vS k)] w fun r w' => ∃ (v' : Value), r = v' ∧ Mem G (fun _ => False) w [] [fR v' (delL l k)] w' := by
 refine Rets.enter 28 _ Tryz.func27 rfl Tryz.ntmps27 Tryz.results27 (by simp) ?_
 have hle1 := SlAt.le' (M.rep 0 rfl)
 have sl2 : IsSl v := SlAt.isSl (Mem.rep M 0 rfl)
 refine wR (wA vZ (WL.nil (wR (wA vZ (WL.nil ?_)))))
 refine W.seq' (wR (wA (vI 0) (WL.nil (W.block ?_))))
 replace M := M.ownNil 81 2
 replace M := M.rechunk 0 (c' := oQ vZ ((l.take 0).filter fun a => !decide (a.key = k))) rfl rfl
 refine W.loop (fun kk ρ w' => ∃ (i_ : Nat) (acci_ : Value), ((i_ ≤ l.length) ∧ kk = l.length - i_) ∧ ρ.has [(0, v), (1, (vS k)), (4, vZ), (5, acci_), (6, (vI ↑i_))] ∧ Mem G (fun _ => False) w [oQ acci_ ((l.take i_).filter fun a => !decide (a.key = k))] [fR v l]  w') _ ⟨0, _, ⟨(Nat.zero_le _), rfl⟩, ⟨rfl, rfl, rfl, rfl, rfl, rfl, rfl⟩, M⟩ ?_
 rintro _ ρ4 w3 ⟨i_, acci_, ⟨hi5, rfl⟩, hρ, M⟩
 obtain ⟨ρ4, rfl⟩ := hρ.know
 clear hρ
 have sl6 : IsSl acci_ := SlAt.isSl (own_slAt (M.chunk 0 rfl).inv)
 have hacl : ((l.take i_).filter fun a => !decide (a.key = k)).length ≤ 400000 := Nat.le_trans (List.length_filter_le _ _) (by rw [List.length_take]; omega)
 refine W.seq' (wR (wM (vI ↑i_) (wM v (wS (vI ↑l.length) rfl (Step.lenSl Tryz.un35 rfl (M.rep 0 rfl)) (wP (vB (decide ((↑i_ : Int) < (↑l.length : Int)))) ?_)))))
 refine WL.nil ?_
 refine W.cond (t := decide ((↑i_ : Int) < (↑l.length : Int))) rfl (fun h7 => ?_) (fun h7 => ?_)
 ·
  have h7p := of_decide_eq_true h7
  refine W.skip (W.seq' (W.block (wR (wM v (wM (vI ↑i_) ?_)))))
  obtain ⟨cap9, hb8⟩ := SlAt.base (M.rep 0 rfl) (by omega)
  obtain ⟨x10, hx10⟩ := elem_of_lt (xs := l) (i := i_) (by omega)
  refine wS (vQ v i_ 2) rfl (sX i_ Tryz.un35 Tryz.el81 rfl rfl hb8) (wP (vQ v i_ 2) (wS (vS x10.key) rfl (Step.loadE (k := 0) Tryz.sc9 (flat_ec (M.rep 0 rfl) hx10 hitE_len) (by decide) rfl rfl) (wM (vS k) (wP (vB (!(x10.key.toList == k.toList))) (WL.nil ?_)))))
  refine W.cond (t := !(x10.key.toList == k.toList)) rfl (fun h11 => ?_) (fun h11 => ?_)
  ·
   refine W.region rfl (wM acci_ (wM v (wM (vI ↑i_) (wS (vQ v i_ 2) rfl (sX i_ Tryz.un35 Tryz.el81 rfl rfl hb8) (wS (Value.agg #[(vS x10.key), (vI x10.val)]) rfl (Step.loadEN (k := 0) (cs' := [(vS x10.key), (vI x10.val)]) Tryz.ag81 (flat_ec (M.rep 0 rfl) hx10 hitE_len) (by decide) rfl rfl rfl) ?_)))))
   refine WL.new (obj := .cells #[(vS x10.key), (vI x10.val)] 81) (fun b => .slice (some ⟨b, 0, none⟩) 1 1) M rfl (fun w => Step.make (by kernel_rfl)) (fun b12 w13 hb12 M => ?_)
   refine WL.does rfl (M.appendF ((l.take i_).filter fun a => !decide (a.key = k)) ([x10] : List THit) (sv := (Value.slice (some ⟨b12, 0, none⟩) 1 1)) 1 Tryz.un35 Tryz.el81 rfl (by decide) rfl rfl rfl (SlAt.of_blk (M.blk 0 rfl) rfl (by decide)) hitE_cel (by have := hacl; simp only [maxLen, List.length_nil, List.length_cons, List.length_append]; omega) (by have := hacl; (try simp only [List.length_nil, List.length_cons, List.length_append]); omega)) ?_
   rintro v14 w15 M
   have sl16 : IsSl v14 := SlAt.isSl (own_slAt (M.chunk 1 rfl).inv)
   refine wA v14 (WL.nil (W.region rfl (wM (vI ↑i_) (wS (vI (↑i_ + 1)) rfl (Step.add rfl rfl (wrap_i64 (by omega))) (wA (vI (↑i_ + 1)) ?_)))))
   refine WL.nil ?_
   replace M := M.rechunk 1 (c' := oQ v14 ((l.take (i_ + 1)).filter fun a => !decide (a.key = k))) rfl (by rw [filtY hx10 (by simpa [sEq_dec] using h11)])
   replace M := M.sel (L' := [oQ v14 ((l.take (i_ + 1)).filter fun a => !decide (a.key = k))]) [1] rfl (by decide)
   exact ⟨_, (by omega), i_ + 1, v14, ⟨(by omega), rfl⟩, ⟨rfl, rfl, rfl, rfl, rfl, rfl, rfl⟩, M⟩
  ·
   refine W.skip (W.region rfl (wM (vI ↑i_) (wS (vI (↑i_ + 1)) rfl (Step.add rfl rfl (wrap_i64 (by omega))) (wA (vI (↑i_ + 1)) (WL.nil ?_)))))
   replace M := M.rechunk 0 (c' := oQ acci_ ((l.take (i_ + 1)).filter fun a => !decide (a.key = k))) rfl (by rw [filtN hx10 (by simpa [sEq_dec] using h11)])
   exact ⟨_, (by omega), i_ + 1, acci_, ⟨(by omega), rfl⟩, ⟨rfl, rfl, rfl, rfl, rfl, rfl, rfl⟩, M⟩
 ·
  have h7p := of_decide_eq_false h7
  refine W.exit ?_
  refine thn_exit ?_
  refine thn_exit ?_
  refine inBlk_hit ?_
  refine wR (wM acci_ (wA acci_ (WL.nil ?_)))
  refine W.ret ?_
  refine ⟨.inl rfl, acci_, ?_, ?_⟩
  · exact ⟨rfl, (Res.r1 (show RV _ _ _ (.tmp 4) acci_ from by exact rfl))⟩
  replace M := M.shareOwn 0 rfl
  have e17 : delL l k = ((l.take i_).filter fun a => !decide (a.key = k)) := by
   unfold delL; rw [List.take_of_length_le (by omega)]
  have hf18 := Sh.reList e17 (M.shr' 0 rfl)
  refine ⟨acci_, ?_, M.close [] rfl (by decide) ⟨hf18, trivial⟩⟩
  rfl
end Go.Proofs
set_option maxRecDepth 100000
namespace Go.Proofs
open Go Tp
theorem Tryz.en27 : Enters Tryz.prog 27 := fun _ _ => by kernel_rfl
theorem r_put {G : Nat → Prop} {w : World} (v : Value) (l : List THit) (k : ByteArray) (n : Int)  (hb : l.length ≤ 400000) (M : Mem G (fun _ => False) w [] [fR v l] w) : Rets Tryz.prog 23 #[v, (vS k), (vI n)] w fun r w' => ∃ (v' : Value), r = v' ∧ Mem G (fun _ => False) w [] [fR v' (putR l (⟨k, n⟩ : THit))] w' := by
 refine Rets.enter 63 _ Tryz.func23 rfl Tryz.ntmps23 Tryz.results23 (by simp) ?_
 have hle1 := SlAt.le' (M.rep 0 rfl)
 have sl2 : IsSl v := SlAt.isSl (Mem.rep M 0 rfl)
 refine wR (wA vZ (WL.nil (wR (wA vZ (WL.nil ?_)))))
 refine wR (wM v (wM (vS k) ?_))
 refine WL.callX rfl (r_delete v l k (by omega) (M.enter0 ⟨(M.shr' 0 rfl), trivial⟩)) (CallsF.func Tryz.en27 rfl) ?_
 rintro v3 w4 ⟨_, rfl, m⟩
 replace M := M.leave0 m
 clear m
 have sl5 : IsSl v3 := SlAt.isSl (Mem.rep M 0 rfl)
 have hle6 := SlAt.le' (M.rep 0 rfl)
 refine wA v3 (WL.nil (W.seq' (wR (wA (vI 0) (WL.nil ?_)))))
 refine W.block ?_
 have hdl_ : (delL l k).length ≤ l.length := delL_le
 have htw_ := (List.takeWhile_prefix (p := fun a : THit => sLt a.key k) (l := (delL l k))).length_le
 replace M := M.ownNil 81 2
 replace M := M.rechunk 0 (c' := oQ vZ ((delL l k).take 0)) rfl rfl
 refine W.loop (fun kk ρ w' => ∃ (i_ : Nat) (acci_ : Value), ((i_ ≤ (delL l k).length) ∧ (∀ j u, j < i_ → (delL l k)[j]? = some u → (fun u : THit => !(sLt u.key k)) u = false) ∧ kk = (delL l k).length - i_) ∧ ρ.has [(1, (vS k)), (2, (vI n)), (6, vZ), (7, acci_), (8, v3), (9, (vI ↑i_))] ∧ Mem G (fun _ => False) w [oQ acci_ ((delL l k).take i_)] [fR v3 (delL l k), fR v l]  w') _ ⟨0, _, ⟨(Nat.zero_le _), (fun _ _ h => absurd h (Nat.not_lt_zero _)), rfl⟩, ⟨rfl, rfl, rfl, rfl, rfl, rfl, rfl, rfl⟩, M⟩ ?_
 rintro _ ρ8 w7 ⟨i_, acci_, ⟨hi9, hi10, rfl⟩, hρ, M⟩
 obtain ⟨ρ8, rfl⟩ := hρ.know
 clear hρ
 have sl11 : IsSl acci_ := SlAt.isSl (own_slAt (M.chunk 0 rfl).inv)
 have hacl : ((delL l k).take i_).length ≤ 400000 := by rw [List.length_take]; omega
 refine W.seq' (wR (wM (vI ↑i_) (wM v3 (wS (vI (↑((delL l k).length))) rfl (Step.lenSl Tryz.un35 rfl (M.rep 0 rfl)) (wP (vB (decide ((↑i_ : Int) < (↑((delL l k).length) : Int)))) ?_)))))
 refine wM (vB (decide ((↑i_ : Int) < (↑((delL l k).length) : Int)))) ?_
 rcases Bool.eq_false_or_eq_true (decide ((↑i_ : Int) < (↑((delL l k).length) : Int))) with h12 | h12
 ·
  have h12p := of_decide_eq_true h12
  rw [h12]
  refine wM v3 (wM (vI ↑i_) ?_)
  obtain ⟨cap14, hb13⟩ := SlAt.base (M.rep 0 rfl) (by omega)
  obtain ⟨x15, hx15⟩ := elem_of_lt (xs := delL l k) (i := i_) (by omega)
  refine wS (vQ v3 i_ 2) rfl (sX i_ Tryz.un35 Tryz.el81 rfl rfl hb13) (wP (vQ v3 i_ 2) (wS (vS x15.key) rfl (Step.loadE (k := 0) Tryz.sc9 (flat_ec (M.rep 0 rfl) hx15 hitE_len) (by decide) rfl rfl) (wM (vS k) (wP (vB (sLt x15.key k)) (wS (vB (sLt x15.key k)) rfl (Step.pick (t := true) rfl rfl) ?_)))))
  refine WL.nil ?_
  refine W.cond (t := sLt x15.key k) rfl (fun h16 => ?_) (fun h16 => ?_)
  ·
   refine W.skip (W.seq' (W.block (W.region rfl (wM acci_ (wM v3 ?_)))))
   refine wM (vI ↑i_) (wS (vQ v3 i_ 2) rfl (sX i_ Tryz.un35 Tryz.el81 rfl rfl hb13) (wS (Value.agg #[(vS x15.key), (vI x15.val)]) rfl (Step.loadEN (k := 0) (cs' := [(vS x15.key), (vI x15.val)]) Tryz.ag81 (flat_ec (M.rep 0 rfl) hx15 hitE_len) (by decide) rfl rfl rfl) ?_))
   refine WL.new (obj := .cells #[(vS x15.key), (vI x15.val)] 81) (fun b => .slice (some ⟨b, 0, none⟩) 1 1) M rfl (fun w => Step.make (by kernel_rfl)) (fun b17 w18 hb17 M => ?_)
   refine WL.does rfl (M.appendF ((delL l k).take i_) ([x15] : List THit) (sv := (Value.slice (some ⟨b17, 0, none⟩) 1 1)) 1 Tryz.un35 Tryz.el81 rfl (by decide) rfl rfl rfl (SlAt.of_blk (M.blk 0 rfl) rfl (by decide)) hitE_cel (by have := hacl; simp only [maxLen, List.length_nil, List.length_cons, List.length_append]; omega) (by have := hacl; (try simp only [List.length_nil, List.length_cons, List.length_append]); omega)) ?_
   rintro v19 w20 M
   have sl21 : IsSl v19 := SlAt.isSl (own_slAt (M.chunk 1 rfl).inv)
   refine wA v19 (WL.nil (W.region rfl (wM (vI ↑i_) (wS (vI (↑i_ + 1)) rfl (Step.add rfl rfl (wrap_i64 (by omega))) (wA (vI (↑i_ + 1)) ?_)))))
   refine WL.nil ?_
   replace M := M.rechunk 1 (c' := oQ v19 ((delL l k).take (i_ + 1))) rfl (by rw [← take_snoc hx15])
   replace M := M.sel (L' := [oQ v19 ((delL l k).take (i_ + 1))]) [1] rfl (by decide)
   exact ⟨_, (by omega), i_ + 1, v19, ⟨(by omega), (below_stepG hi10 hx15 (by simpa using h16)), rfl⟩, ⟨rfl, rfl, rfl, rfl, rfl, rfl, rfl, rfl⟩, M⟩
  ·
   refine W.exit ?_
   refine thn_exit ?_
   refine thn_exit ?_
   refine inBlk_hit ?_
   refine W.seq' ?_
   replace M := M.rechunk 0 (c' := oQ acci_ ((delL l k).takeWhile fun a => sLt a.key k)) rfl (by rw [takeW_of (i := i_) (fun j u h1 h2 => by simpa using hi10 j u h1 h2) (.inr ⟨_, hx15, by simpa using h16⟩)])
   refine W.region rfl (wM acci_ (wM (vS k) (wM (vI n) (wP (Value.agg #[(vS k), (vI n)]) ?_))))
   refine WL.new (obj := .cells #[(vS k), (vI n)] 81) (fun b => .slice (some ⟨b, 0, none⟩) 1 1) M rfl (fun w => Step.make (by kernel_rfl)) (fun b22 w23 hb22 M => ?_)
   refine WL.does rfl (M.appendF ((delL l k).takeWhile fun a => sLt a.key k) ([(⟨k, n⟩ : THit)] : List THit) (sv := (Value.slice (some ⟨b22, 0, none⟩) 1 1)) 1 Tryz.un35 Tryz.el81 rfl (by decide) rfl rfl rfl (SlAt.of_blk (M.blk 0 rfl) rfl (by decide)) hitE_cel (by have := htw_; simp only [maxLen, List.length_nil, List.length_cons, List.length_append]; omega) (by have := htw_; (try simp only [List.length_nil, List.length_cons, List.length_append]); omega)) ?_
   rintro v24 w25 M
   have sl26 : IsSl v24 := SlAt.isSl (own_slAt (M.chunk 1 rfl).inv)
   refine wA v24 (WL.nil (W.seq' (wR (wA (vI 0) (WL.nil ?_)))))
   refine W.block ?_
   replace M := M.loseI 0
   replace M : Mem _ _ _ [oQ v24 (((delL l k).takeWhile fun a => sLt a.key k) ++ ([(⟨k, n⟩ : THit)] : List THit))] [fR v3 (delL l k), fR v l] _ := M
   replace M := M.rechunk 0 (c' := oQ v24 ((((delL l k).takeWhile fun a => sLt a.key k) ++ ([(⟨k, n⟩ : THit)] : List THit)) ++ ((delL l k).take 0).filter fun a => sLt k a.key)) rfl (by simp)
   replace M := M.sel (L' := [oQ v24 ((((delL l k).takeWhile fun a => sLt a.key k) ++ ([(⟨k, n⟩ : THit)] : List THit)) ++ ((delL l k).take 0).filter fun a => sLt k a.key)]) [0] rfl (by decide)
   refine W.loop (fun kk ρ w' => ∃ (j_ : Nat) (accj_ : Value), ((j_ ≤ (delL l k).length) ∧ kk = (delL l k).length - j_) ∧ ρ.has [(1, (vS k)), (6, vZ), (7, accj_), (8, v3), (10, (vI ↑j_))] ∧ Mem G (fun _ => False) w [oQ accj_ ((((delL l k).takeWhile fun a => sLt a.key k) ++ ([(⟨k, n⟩ : THit)] : List THit)) ++ ((delL l k).take j_).filter fun a => sLt k a.key)] [fR v3 (delL l k), fR v l]  w') _ ⟨0, _, ⟨(Nat.zero_le _), rfl⟩, ⟨rfl, rfl, rfl, rfl, rfl, rfl, rfl⟩, M⟩ ?_
   rintro _ ρ28 w27 ⟨j_, accj_, ⟨hi29, rfl⟩, hρ, M⟩
   obtain ⟨ρ28, rfl⟩ := hρ.know
   clear hρ
   have sl30 : IsSl accj_ := SlAt.isSl (own_slAt (M.chunk 0 rfl).inv)
   have hacf := Nat.le_trans (List.length_filter_le (fun a : THit => sLt k a.key) ((delL l k).take j_)) (by rw [List.length_take]; exact Nat.min_le_right ..)
   have hac2 : ((((delL l k).takeWhile fun a => sLt a.key k) ++ ([(⟨k, n⟩ : THit)] : List THit)) ++ ((delL l k).take j_).filter fun a => sLt k a.key).length ≤ 1000000 := by simp only [List.length_append, List.length_cons, List.length_nil]; omega
   refine W.seq' (wR (wM (vI ↑j_) (wM v3 (wS (vI (↑((delL l k).length))) rfl (Step.lenSl Tryz.un35 rfl (M.rep 0 rfl)) (wP (vB (decide ((↑j_ : Int) < (↑((delL l k).length) : Int)))) ?_)))))
   refine WL.nil ?_
   refine W.cond (t := decide ((↑j_ : Int) < (↑((delL l k).length) : Int))) rfl (fun h31 => ?_) (fun h31 => ?_)
   ·
    have h31p := of_decide_eq_true h31
    refine W.skip (W.seq' (W.block (wR (wM v3 (wM (vI ↑j_) ?_)))))
    obtain ⟨x32, hx32⟩ := elem_of_lt (xs := delL l k) (i := j_) (by omega)
    refine wS (vQ v3 j_ 2) rfl (sX j_ Tryz.un35 Tryz.el81 rfl rfl hb13) (wP (vQ v3 j_ 2) (wS (vS x32.key) rfl (Step.loadE (k := 0) Tryz.sc9 (flat_ec (M.rep 0 rfl) hx32 hitE_len) (by decide) rfl rfl) (wM (vS k) (wP (vB (!(sLt x32.key k || x32.key.toList == k.toList))) (WL.nil ?_)))))
    refine W.cond (t := !(sLt x32.key k || x32.key.toList == k.toList)) rfl (fun h33 => ?_) (fun h33 => ?_)
    ·
     refine W.region rfl (wM accj_ (wM v3 (wM (vI ↑j_) (wS (vQ v3 j_ 2) rfl (sX j_ Tryz.un35 Tryz.el81 rfl rfl hb13) (wS (Value.agg #[(vS x32.key), (vI x32.val)]) rfl (Step.loadEN (k := 0) (cs' := [(vS x32.key), (vI x32.val)]) Tryz.ag81 (flat_ec (M.rep 0 rfl) hx32 hitE_len) (by decide) rfl rfl rfl) ?_)))))
     refine WL.new (obj := .cells #[(vS x32.key), (vI x32.val)] 81) (fun b => .slice (some ⟨b, 0, none⟩) 1 1) M rfl (fun w => Step.make (by kernel_rfl)) (fun b34 w35 hb34 M => ?_)
     refine WL.does rfl (M.appendF ((((delL l k).takeWhile fun a => sLt a.key k) ++ ([(⟨k, n⟩ : THit)] : List THit)) ++ ((delL l k).take j_).filter fun a => sLt k a.key) ([x32] : List THit) (sv := (Value.slice (some ⟨b34, 0, none⟩) 1 1)) 1 Tryz.un35 Tryz.el81 rfl (by decide) rfl rfl rfl (SlAt.of_blk (M.blk 0 rfl) rfl (by decide)) hitE_cel (by have := hac2; simp only [maxLen, List.length_nil, List.length_cons, List.length_append]; omega) (by have := hac2; (try simp only [List.length_nil, List.length_cons, List.length_append]); omega)) ?_
     rintro v36 w37 M
     have sl38 : IsSl v36 := SlAt.isSl (own_slAt (M.chunk 1 rfl).inv)
     refine wA v36 (WL.nil (W.region rfl (wM (vI ↑j_) (wS (vI (↑j_ + 1)) rfl (Step.add rfl rfl (wrap_i64 (by omega))) (wA (vI (↑j_ + 1)) ?_)))))
     refine WL.nil ?_
     replace M := M.rechunk 1 (c' := oQ v36 ((((delL l k).takeWhile fun a => sLt a.key k) ++ ([(⟨k, n⟩ : THit)] : List THit)) ++ ((delL l k).take (j_ + 1)).filter fun a => sLt k a.key)) rfl (by rw [filtY (p := fun a : THit => sLt k a.key) hx32 (by have h_ := h33; simpa [sGt, sLe] using h_), ← List.append_assoc])
     replace M := M.sel (L' := [oQ v36 ((((delL l k).takeWhile fun a => sLt a.key k) ++ ([(⟨k, n⟩ : THit)] : List THit)) ++ ((delL l k).take (j_ + 1)).filter fun a => sLt k a.key)]) [1] rfl (by decide)
     exact ⟨_, (by omega), j_ + 1, v36, ⟨(by omega), rfl⟩, ⟨rfl, rfl, rfl, rfl, rfl, rfl, rfl⟩, M⟩
    ·
     refine W.skip (W.region rfl (wM (vI ↑j_) (wS (vI (↑j_ + 1)) rfl (Step.add rfl rfl (wrap_i64 (by omega))) (wA (vI (↑j_ + 1)) (WL.nil ?_)))))
     replace M := M.rechunk 0 (c' := oQ accj_ ((((delL l k).takeWhile fun a => sLt a.key k) ++ ([(⟨k, n⟩ : THit)] : List THit)) ++ ((delL l k).take (j_ + 1)).filter fun a => sLt k a.key)) rfl (by rw [filtN (p := fun a : THit => sLt k a.key) hx32 (by have h_ := h33; simpa [sGt, sLe] using h_)])
     exact ⟨_, (by omega), j_ + 1, accj_, ⟨(by omega), rfl⟩, ⟨rfl, rfl, rfl, rfl, rfl, rfl, rfl⟩, M⟩
   ·
    have h31p := of_decide_eq_false h31
    refine W.exit ?_
    refine thn_exit ?_
    refine thn_exit ?_
    refine inBlk_hit ?_
    refine wR (wM accj_ (wA accj_ (WL.nil ?_)))
    refine W.ret ?_
    refine ⟨.inl rfl, accj_, ?_, ?_⟩
    · exact ⟨rfl, (Res.r1 (show RV _ _ _ (.tmp 6) accj_ from by exact rfl))⟩
    replace M := M.shareOwn 0 rfl
    have e39 : putR l (⟨k, n⟩ : THit) = ((((delL l k).takeWhile fun a => sLt a.key k) ++ ([(⟨k, n⟩ : THit)] : List THit)) ++ ((delL l k).take j_).filter fun a => sLt k a.key) := by
     unfold putR; rw [List.take_of_length_le (by omega)]; simp
    have hf40 := Sh.reList e39 (M.shr' 0 rfl)
    refine ⟨accj_, ?_, M.close [] rfl (by decide) ⟨hf40, trivial⟩⟩
    rfl
 ·
  have h12p := of_decide_eq_false h12
  rw [h12]
  refine WL.pass rfl ?_
  refine WL.pass rfl ?_
  refine WL.pass rfl ?_
  refine WL.pass rfl ?_
  refine WL.pass rfl ?_
  refine WL.pass rfl ?_
  refine WL.pass rfl ?_
  refine wS (vB false) rfl (Step.pick (t := false) rfl rfl) (WL.nil ?_)
  refine W.cond (t := false) rfl (fun h => by cases h) (fun _ => ?_)
  refine W.exit ?_
  refine thn_exit ?_
  refine thn_exit ?_
  refine inBlk_hit ?_
  refine W.seq' ?_
  replace M := M.rechunk 0 (c' := oQ acci_ ((delL l k).takeWhile fun a => sLt a.key k)) rfl (by rw [takeW_of (i := i_) (fun j u h1 h2 => by simpa using hi10 j u h1 h2) (.inl (by omega))])
  refine W.region rfl (wM acci_ (wM (vS k) (wM (vI n) (wP (Value.agg #[(vS k), (vI n)]) ?_))))
  refine WL.new (obj := .cells #[(vS k), (vI n)] 81) (fun b => .slice (some ⟨b, 0, none⟩) 1 1) M rfl (fun w => Step.make (by kernel_rfl)) (fun b41 w42 hb41 M => ?_)
  refine WL.does rfl (M.appendF ((delL l k).takeWhile fun a => sLt a.key k) ([(⟨k, n⟩ : THit)] : List THit) (sv := (Value.slice (some ⟨b41, 0, none⟩) 1 1)) 1 Tryz.un35 Tryz.el81 rfl (by decide) rfl rfl rfl (SlAt.of_blk (M.blk 0 rfl) rfl (by decide)) hitE_cel (by have := htw_; simp only [maxLen, List.length_nil, List.length_cons, List.length_append]; omega) (by have := htw_; (try simp only [List.length_nil, List.length_cons, List.length_append]); omega)) ?_
  rintro v43 w44 M
  have sl45 : IsSl v43 := SlAt.isSl (own_slAt (M.chunk 1 rfl).inv)
  refine wA v43 (WL.nil (W.seq' (wR (wA (vI 0) (WL.nil ?_)))))
  refine W.block ?_
  replace M := M.loseI 0
  replace M : Mem _ _ _ [oQ v43 (((delL l k).takeWhile fun a => sLt a.key k) ++ ([(⟨k, n⟩ : THit)] : List THit))] [fR v3 (delL l k), fR v l] _ := M
  replace M := M.rechunk 0 (c' := oQ v43 ((((delL l k).takeWhile fun a => sLt a.key k) ++ ([(⟨k, n⟩ : THit)] : List THit)) ++ ((delL l k).take 0).filter fun a => sLt k a.key)) rfl (by simp)
  replace M := M.sel (L' := [oQ v43 ((((delL l k).takeWhile fun a => sLt a.key k) ++ ([(⟨k, n⟩ : THit)] : List THit)) ++ ((delL l k).take 0).filter fun a => sLt k a.key)]) [0] rfl (by decide)
  refine W.loop (fun kk ρ w' => ∃ (j_ : Nat) (accj_ : Value), ((j_ ≤ (delL l k).length) ∧ kk = (delL l k).length - j_) ∧ ρ.has [(1, (vS k)), (6, vZ), (7, accj_), (8, v3), (10, (vI ↑j_))] ∧ Mem G (fun _ => False) w [oQ accj_ ((((delL l k).takeWhile fun a => sLt a.key k) ++ ([(⟨k, n⟩ : THit)] : List THit)) ++ ((delL l k).take j_).filter fun a => sLt k a.key)] [fR v3 (delL l k), fR v l]  w') _ ⟨0, _, ⟨(Nat.zero_le _), rfl⟩, ⟨rfl, rfl, rfl, rfl, rfl, rfl, rfl⟩, M⟩ ?_
  rintro _ ρ47 w46 ⟨j_, accj_, ⟨hi48, rfl⟩, hρ, M⟩
  obtain ⟨ρ47, rfl⟩ := hρ.know
  clear hρ
  have sl49 : IsSl accj_ := SlAt.isSl (own_slAt (M.chunk 0 rfl).inv)
  have hacf := Nat.le_trans (List.length_filter_le (fun a : THit => sLt k a.key) ((delL l k).take j_)) (by rw [List.length_take]; exact Nat.min_le_right ..)
  have hac2 : ((((delL l k).takeWhile fun a => sLt a.key k) ++ ([(⟨k, n⟩ : THit)] : List THit)) ++ ((delL l k).take j_).filter fun a => sLt k a.key).length ≤ 1000000 := by simp only [List.length_append, List.length_cons, List.length_nil]; omega
  refine W.seq' (wR (wM (vI ↑j_) (wM v3 (wS (vI (↑((delL l k).length))) rfl (Step.lenSl Tryz.un35 rfl (M.rep 0 rfl)) (wP (vB (decide ((↑j_ : Int) < (↑((delL l k).length) : Int)))) ?_)))))
  refine WL.nil ?_
  refine W.cond (t := decide ((↑j_ : Int) < (↑((delL l k).length) : Int))) rfl (fun h50 => ?_) (fun h50 => ?_)
  ·
   have h50p := of_decide_eq_true h50
   refine W.skip (W.seq' (W.block (wR (wM v3 (wM (vI ↑j_) ?_)))))
   obtain ⟨cap52, hb51⟩ := SlAt.base (M.rep 0 rfl) (by omega)
   obtain ⟨x53, hx53⟩ := elem_of_lt (xs := delL l k) (i := j_) (by omega)
   refine wS (vQ v3 j_ 2) rfl (sX j_ Tryz.un35 Tryz.el81 rfl rfl hb51) (wP (vQ v3 j_ 2) (wS (vS x53.key) rfl (Step.loadE (k := 0) Tryz.sc9 (flat_ec (M.rep 0 rfl) hx53 hitE_len) (by decide) rfl rfl) (wM (vS k) (wP (vB (!(sLt x53.key k || x53.key.toList == k.toList))) (WL.nil ?_)))))
   refine W.cond (t := !(sLt x53.key k || x53.key.toList == k.toList)) rfl (fun h54 => ?_) (fun h54 => ?_)
   ·
    refine W.region rfl (wM accj_ (wM v3 (wM (vI ↑j_) (wS (vQ v3 j_ 2) rfl (sX j_ Tryz.un35 Tryz.el81 rfl rfl hb51) (wS (Value.agg #[(vS x53.key), (vI x53.val)]) rfl (Step.loadEN (k := 0) (cs' := [(vS x53.key), (vI x53.val)]) Tryz.ag81 (flat_ec (M.rep 0 rfl) hx53 hitE_len) (by decide) rfl rfl rfl) ?_)))))
    refine WL.new (obj := .cells #[(vS x53.key), (vI x53.val)] 81) (fun b => .slice (some ⟨b, 0, none⟩) 1 1) M rfl (fun w => Step.make (by kernel_rfl)) (fun b55 w56 hb55 M => ?_)
    refine WL.does rfl (M.appendF ((((delL l k).takeWhile fun a => sLt a.key k) ++ ([(⟨k, n⟩ : THit)] : List THit)) ++ ((delL l k).take j_).filter fun a => sLt k a.key) ([x53] : List THit) (sv := (Value.slice (some ⟨b55, 0, none⟩) 1 1)) 1 Tryz.un35 Tryz.el81 rfl (by decide) rfl rfl rfl (SlAt.of_blk (M.blk 0 rfl) rfl (by decide)) hitE_cel (by have := hac2; simp only [maxLen, List.length_nil, List.length_cons, List.length_append]; omega) (by have := hac2; (try simp only [List.length_nil, List.length_cons, List.length_append]); omega)) ?_
    rintro v57 w58 M
    have sl59 : IsSl v57 := SlAt.isSl (own_slAt (M.chunk 1 rfl).inv)
    refine wA v57 (WL.nil (W.region rfl (wM (vI ↑j_) (wS (vI (↑j_ + 1)) rfl (Step.add rfl rfl (wrap_i64 (by omega))) (wA (vI (↑j_ + 1)) ?_)))))
    refine WL.nil ?_
    replace M := M.rechunk 1 (c' := oQ v57 ((((delL l k).takeWhile fun a => sLt a.key k) ++ ([(⟨k, n⟩ : THit)] : List THit)) ++ ((delL l k).take (j_ + 1)).filter fun a => sLt k a.key)) rfl (by rw [filtY (p := fun a : THit => sLt k a.key) hx53 (by have h_ := h54; simpa [sGt, sLe] using h_), ← List.append_assoc])
    replace M := M.sel (L' := [oQ v57 ((((delL l k).takeWhile fun a => sLt a.key k) ++ ([(⟨k, n⟩ : THit)] : List THit)) ++ ((delL l k).take (j_ + 1)).filter fun a => sLt k a.key)]) [1] rfl (by decide)
    exact ⟨_, (by omega), j_ + 1, v57, ⟨(by omega), rfl⟩, ⟨rfl, rfl, rfl, rfl, rfl, rfl, rfl⟩, M⟩
   ·
    refine W.skip (W.region rfl (wM (vI ↑j_) (wS (vI (↑j_ + 1)) rfl (Step.add rfl rfl (wrap_i64 (by omega))) (wA (vI (↑j_ + 1)) (WL.nil ?_)))))
    replace M := M.rechunk 0 (c' := oQ accj_ ((((delL l k).takeWhile fun a => sLt a.key k) ++ ([(⟨k, n⟩ : THit)] : List THit)) ++ ((delL l k).take (j_ + 1)).filter fun a => sLt k a.key)) rfl (by rw [filtN (p := fun a : THit => sLt k a.key) hx53 (by have h_ := h54; simpa [sGt, sLe] using h_)])
    exact ⟨_, (by omega), j_ + 1, accj_, ⟨(by omega), rfl⟩, ⟨rfl, rfl, rfl, rfl, rfl, rfl, rfl⟩, M⟩
  ·
   have h50p := of_decide_eq_false h50
   refine W.exit ?_
   refine thn_exit ?_
   refine thn_exit ?_
   refine inBlk_hit ?_
   refine wR (wM accj_ (wA accj_ (WL.nil ?_)))
   refine W.ret ?_
   refine ⟨.inl rfl, accj_, ?_, ?_⟩
   · exact ⟨rfl, (Res.r1 (show RV _ _ _ (.tmp 6) accj_ from by exact rfl))⟩
   replace M := M.shareOwn 0 rfl
   have e60 : putR l (⟨k, n⟩ : THit) = ((((delL l k).takeWhile fun a => sLt a.key k) ++ ([(⟨k, n⟩ : THit)] : List THit)) ++ ((delL l k).take j_).filter fun a => sLt k a.key) := by
    unfold putR; rw [List.take_of_length_le (by omega)]; simp
   have hf61 := Sh.reList e60 (M.shr' 0 rfl)
   refine ⟨accj_, ?_, M.close [] rfl (by decide) ⟨hf61, trivial⟩⟩
   rfl
end Go.Proofs
set_option maxRecDepth 100000
namespace Go.Proofs
open Go Tp
theorem Tryz.un43 : Und Tryz.prog 43 (.slice 78) := by unfold Und; kernel_rfl
theorem Tryz.ag78 : Aggr Tryz.prog 78 3 := ⟨fun _ => by kernel_rfl, fun _ => by kernel_rfl⟩
theorem Tryz.el78 : Elem Tryz.prog 78 (Value.agg #[(vI 0), (vB false), vZ]) 3 40 := Elem.mk (by kernel_rfl)
theorem Tryz.en38 : Enters Tryz.prog 38 := fun _ _ => by kernel_rfl
theorem r_walk : ∀ (d : Nat) {G : Nat → Prop} {w : World} (v : Value) (l : List TPl) (a : Nat) (q : Int)  (t : BT) (hW : walkOk d l a t q) (hq : 0 ≤ q ∧ q + (d : Int) ≤ 1000000) (hb : (flatB d t).length ≤ 400000) (hlb : l.length ≤ 1000000) (M : Mem G (fun _ => False) w [] [RepS PlT v l] w), Rets Tryz.prog 38 #[v, (vI ↑a), (vI q)] w fun r w' => ∃ (v' : Value), r = (Value.tuple #[v', (vI (↑(a + (placesB d t q).length))), (vB true)]) ∧ Mem G (fun _ => False) w [] [fS v' ((flatB d t).map THit.key)] w' := by
 intro d
 induction d using Nat.strongRecOn
 rename_i d ih
 intro G w v l a q t hW hq hb hlb M
 refine Rets.enter 80 _ Tryz.func38 rfl Tryz.ntmps38 Tryz.results38 (by simp) ?_
 have hle1 := RepS.le' (M.rep 0 rfl)
 have sl2 : IsSl v := RepS.isSl (Mem.rep M 0 rfl)
 obtain ⟨p, hp, hpd, hpl, hpk⟩ := walk_root hW
 have hal := (List.getElem?_eq_some_iff.1 hp).1
 have hkl_ : p.keys.length = t.ks.length := by rw [hpk, List.length_map]
 have htk_ := (walk_ok hW).1
 have hwl_ := walk_len hW
 obtain ⟨cs3, M⟩ := M.openS 0 rfl
 refine wR (wA vZ (wA (vI 0) (wA (vB false) (WL.nil (W.seq' ?_)))))
 refine wR (wM (vI ↑a) (wM v (wS (vI ↑l.length) rfl (Step.lenSl Tryz.un43 rfl (M.rep 0 rfl)) (wP (vB (decide ((↑a : Int) ≥ (↑l.length : Int)))) (wM (vB (decide ((↑a : Int) ≥ (↑l.length : Int)))) ?_)))))
 rcases Bool.eq_false_or_eq_true (decide ((↑a : Int) ≥ (↑l.length : Int))) with h4 | h4
 ·
  have h4p := of_decide_eq_true h4
  omega
 ·
  have h4p := of_decide_eq_false h4
  rw [h4]
  refine wM v (wM (vI ↑a) ?_)
  obtain ⟨cap6, hb5⟩ := SlAt.base (M.rep 0 rfl) (by omega)
  obtain ⟨kv7, M⟩ := pl_open M 0 1 rfl rfl rfl hp
  have sl8 : IsSl kv7 := SlAt.isSl (Mem.rep M 1 rfl)
  refine wS (vQ v a 3) rfl (sX a Tryz.un43 Tryz.el78 rfl rfl hb5) (wP (vQ v a 3) (wS (vI p.depth) rfl (Step.loadE (k := 0) Tryz.sc3 (M.rep 0 rfl : EC _ _ _ _ _) (by decide) rfl rfl) (wM (vI q) (wP (vB ((p.depth : Int) != (q : Int))) (wS (vB ((p.depth : Int) != (q : Int))) rfl (Step.pick (t := false) rfl rfl) ?_)))))
  refine WL.nil ?_
  refine W.cond (t := (p.depth : Int) != (q : Int)) rfl (fun h9 => ?_) (fun h9 => ?_)
  ·
   have h9p : ¬ (p.depth : Int) = (q : Int) := by simpa using h9
   omega
  ·
   have h9p : (p.depth : Int) = (q : Int) := by simpa using h9
   refine W.skip (wR (wM v (wM (vI ↑a) (wS (vQ v a 3) rfl (sX a Tryz.un43 Tryz.el78 rfl rfl hb5) (wS (Value.agg #[(vI p.depth), (vB p.leaf), kv7]) rfl (Step.loadEN (k := 0) (cs' := [(vI p.depth), (vB p.leaf), kv7]) Tryz.ag78 (M.rep 0 rfl : EC _ _ _ _ _) (by decide) rfl rfl rfl) ?_)))))
   refine WL.alloc (c := #[(vI 0), (vB false), vZ]) M rfl Tryz.el78.zero rfl (fun b10 w11 hb10 M => ?_)
   refine WL.store (v := (Value.agg #[(vI p.depth), (vB p.leaf), kv7])) (cs := [(vI p.depth), (vB p.leaf), kv7]) (c' := #[(vI p.depth), (vB p.leaf), kv7]) M 0 rfl rfl Tryz.el78.sized rfl rfl rfl rfl (Nat.le_of_ble_eq_true rfl) (cel_cons rfl (cel_cons rfl (cel_cons (IsSl.cel sl8) cel_nil))) rfl rfl (fun w12 M => ?_)
   refine WL.nil (W.seq' (wR (wP (Value.pointer (some ⟨b10, 1, none⟩)) (wS (vB p.leaf) rfl (Step.load1 Tryz.sc4 rfl ((M.cell 0 rfl 1).trans rfl)) (WL.nil ?_)))))
   refine W.cond (t := p.leaf) rfl (fun h13 => ?_) (fun h13 => ?_)
   ·
    have hd0_ : d = 0 := by rw [hpl] at h13; simpa using h13
    refine wR (wP (Value.pointer (some ⟨b10, 2, none⟩)) (wS kv7 rfl (Step.load1 Tryz.sc23 rfl ((M.cell 0 rfl 2).trans rfl)) (wM (vI ↑a) (wS (vI (↑a + 1)) rfl (Step.add rfl rfl (wrap_i64 (by omega))) (wA kv7 ?_)))))
    refine wA (vI (↑a + 1)) (wA (vB true) (WL.nil ?_))
    refine W.ret ?_
    refine ⟨.inl rfl, (Value.tuple #[kv7, (vI (↑a + 1)), (vB true)]), ?_, ?_⟩
    · exact ⟨rfl, (Res.r3 (show RV _ _ _ (.tmp 6) kv7 from by exact rfl) (show RV _ _ _ (.tmp 7) (vI (↑a + 1)) from by exact rfl) (show RV _ _ _ (.tmp 8) (vB true) from by exact rfl))⟩
    have e14 : (flatB d t).map THit.key = p.keys := by
     subst hd0_
     rw [hpk]; rfl
    have hf15 := Sh.reList e14 (M.shr' 1 rfl)
    refine ⟨kv7, ?_, M.close [] rfl (by decide) ⟨hf15, trivial⟩⟩
    subst hd0_
    simp [placesB]
   ·
    obtain ⟨e, he_⟩ : ∃ e, d = e + 1 := ⟨d - 1, by rw [hpl] at h13; simp at h13; omega⟩
    have hW1 := he_ ▸ hW
    have hts_ := (walk_ok hW1).2 (by omega)
    have hb1_ := hb
    rw [he_] at hb1_
    refine W.skip (wR (wA vZ (WL.nil (wR (wM (vI ↑a) ?_)))))
    refine wS (vI (↑(a + 1 + kidsAt e t.ts q 0))) rfl (Step.cast (congrArg (Value.int .i64) (show (↑a + 1 : Int) = ↑(a + 1 + kidsAt e t.ts q 0) by rw [kidsAt_zero]; omega)) (Step.add rfl rfl (wrap_i64 (by omega)))) (wA (vI (↑(a + 1 + kidsAt e t.ts q 0))) (WL.nil (W.seq' (wR (wA (vI 0) ?_)))))
    refine WL.nil (W.block ?_)
    replace M := M.ownNil 9 1
    replace M := M.rechunk 0 (c' := oS vZ ((partW (t.ts.map (flatB e)) t.ks 0).map THit.key)) rfl rfl
    refine W.loop (fun kk ρ w' => ∃ (i_ : Nat) (v_ : Value), ((i_ ≤ t.ks.length + 1) ∧ kk = t.ks.length + 1 - i_) ∧ ρ.has [(0, v), (1, (vI ↑a)), (2, (vI q)), (9, (vP b10)), (10, v_), (11, (vI (↑(a + 1 + kidsAt e t.ts q i_)))), (12, (vI ↑i_))] ∧ Mem G (fun _ => False) w [oS v_ ((partW (t.ts.map (flatB e)) t.ks i_).map THit.key), bk b10 #[(vI p.depth), (vB p.leaf), kv7] 78] [EC v 3 a [(vI p.depth), (vB p.leaf), kv7], fS kv7 p.keys, SlAt 3 v l.length cs3, RepL PlT cs3 l, RepS PlT v l]  w') _ ⟨0, _, ⟨(Nat.zero_le _), rfl⟩, ⟨rfl, rfl, rfl, rfl, rfl, rfl, rfl, rfl, rfl⟩, M⟩ ?_
    rintro _ ρ17 w16 ⟨i_, v_, ⟨hi18, rfl⟩, hρ, M⟩
    obtain ⟨ρ17, rfl⟩ := hρ.know
    clear hρ
    have sl19 : IsSl v_ := SlAt.isSl (own_slAt (M.chunk 0 rfl).inv)
    refine W.seq' (wR (wM (vI ↑i_) (wP (Value.pointer (some ⟨b10, 2, none⟩)) (wS kv7 rfl (Step.load1 Tryz.sc23 rfl ((M.cell 1 rfl 2).trans rfl)) (wS (vI ↑p.keys.length) rfl (Step.lenSl Tryz.un23 rfl (M.rep 1 rfl)) ?_)))))
    refine wP (vB (decide ((↑i_ : Int) ≤ (↑p.keys.length : Int)))) (WL.nil ?_)
    refine W.cond (t := decide ((↑i_ : Int) ≤ (↑p.keys.length : Int))) rfl (fun h20 => ?_) (fun h20 => ?_)
    ·
     have h20p := of_decide_eq_true h20
     refine W.skip (W.seq' (W.block (W.seq' ?_)))
     obtain ⟨c_, hc_⟩ := elem_of_lt (xs := t.ts) (i := i_) (by omega)
     have hW2 := walk_kid hW1 hc_
     have hrm_ := walk_room hW1.1 (by omega) hc_ hb1_
     refine W.region rfl (wM v (wM (vI (↑(a + 1 + kidsAt e t.ts q i_))) (wM (vI q) (wS (vI (q + 1)) rfl (Step.add rfl rfl (wrap_i64 (by omega))) ?_))))
     refine WL.callX rfl (ih e (by omega) v l (a + 1 + kidsAt e t.ts q i_) (q + 1) c_ hW2 (by omega) (by simp only [List.length_map] at hrm_; omega) (by omega) (M.enter0 ⟨(M.shr' 4 rfl), trivial⟩)) (CallsF.func Tryz.en38 rfl) ?_
     rintro _ w22 ⟨v21, rfl, m⟩
     replace M := M.leave0 m
     clear m
     have sl23 : IsSl v21 := SlAt.isSl (Mem.rep M 0 rfl)
     have hle24 := SlAt.le' (M.rep 0 rfl)
     refine wM (Value.tuple #[v21, (vI (↑((a + 1 + kidsAt e t.ts q i_) + (placesB e c_ (q + 1)).length))), (vB true)]) (wP v21 (wS (vI (↑(a + 1 + kidsAt e t.ts q (i_ + 1)))) rfl (Step.cast (congrArg (Value.int .i64) (show (↑((a + 1 + kidsAt e t.ts q i_) + (placesB e c_ (q + 1)).length) : Int) = ↑(a + 1 + kidsAt e t.ts q (i_ + 1)) by rw [kidsAt_succ hc_]; omega)) sP) (wP (vB true) (wA v21 (wA (vI (↑(a + 1 + kidsAt e t.ts q (i_ + 1)))) ?_)))))
     refine wA (vB true) (WL.nil (W.seq' (wR (wM (vB true) (wP (vB false) ?_)))))
     refine WL.nil ?_
     refine W.cond (t := false) rfl (fun h => by cases h) (fun _ => ?_)
     refine W.skip (wR (wM v_ (wM v21 ?_)))
     refine WL.does rfl (M.appendF ((partW (t.ts.map (flatB e)) t.ks i_).map THit.key) ((flatB e c_).map THit.key) (sv := v21) 0 Tryz.un23 Tryz.el9 rfl (by decide) rfl rfl rfl (M.rep 0 rfl) strE_cel (by have := hrm_; simp only [maxLen, List.length_nil, List.length_cons, List.length_append]; omega) (by have := hrm_; (try simp only [List.length_nil, List.length_cons, List.length_append]); omega)) ?_
     rintro v25 w26 M
     have sl27 : IsSl v25 := SlAt.isSl (own_slAt (M.chunk 0 rfl).inv)
     refine wA v25 (WL.nil (W.seq' (wR (wM (vI ↑i_) (wP (Value.pointer (some ⟨b10, 2, none⟩)) ?_)))))
     refine wS kv7 rfl (Step.load1 Tryz.sc23 rfl ((M.cell 1 rfl 2).trans rfl)) (wS (vI ↑p.keys.length) rfl (Step.lenSl Tryz.un23 rfl (M.rep 2 rfl)) (wP (vB (decide ((↑i_ : Int) < (↑p.keys.length : Int)))) (WL.nil ?_)))
     refine W.cond (t := decide ((↑i_ : Int) < (↑p.keys.length : Int))) rfl (fun h28 => ?_) (fun h28 => ?_)
     ·
      have h28p := of_decide_eq_true h28
      refine W.region rfl (wM v25 (wP (Value.pointer (some ⟨b10, 2, none⟩)) (wS kv7 rfl (Step.load1 Tryz.sc23 rfl ((M.cell 1 rfl 2).trans rfl)) (wM (vI ↑i_) ?_))))
      obtain ⟨cap30, hb29⟩ := SlAt.base (M.rep 2 rfl) (by omega)
      obtain ⟨x31, hx31⟩ := elem_of_lt (xs := p.keys) (i := i_) (by omega)
      refine wS (vQ kv7 i_ 1) rfl (sX i_ Tryz.un23 Tryz.el9 rfl rfl hb29) (wS (vS x31) rfl (Step.loadE (k := 0) Tryz.sc9 (flat_ec (M.rep 2 rfl) hx31 strE_len) (by decide) rfl rfl) ?_)
      refine WL.new (obj := .cells #[(vS x31)] 9) (fun b => .slice (some ⟨b, 0, none⟩) 1 1) M rfl (fun w => Step.make (by kernel_rfl)) (fun b32 w33 hb32 M => ?_)
      refine WL.does rfl (M.appendF (((partW (t.ts.map (flatB e)) t.ks i_).map THit.key) ++ ((flatB e c_).map THit.key)) ([x31] : List ByteArray) (sv := (Value.slice (some ⟨b32, 0, none⟩) 1 1)) 1 Tryz.un23 Tryz.el9 rfl (by decide) rfl rfl rfl (SlAt.of_blk (M.blk 0 rfl) rfl (by decide)) strE_cel (by have := hrm_; simp only [maxLen, List.length_nil, List.length_cons, List.length_append]; omega) (by have := hrm_; (try simp only [List.length_nil, List.length_cons, List.length_append]); omega)) ?_
      rintro v34 w35 M
      have sl36 : IsSl v34 := SlAt.isSl (own_slAt (M.chunk 1 rfl).inv)
      refine wA v34 (WL.nil (W.region rfl (wM (vI (↑(a + 1 + kidsAt e t.ts q (i_ + 1)))) (wA (vI (↑(a + 1 + kidsAt e t.ts q (i_ + 1)))) (WL.nil ?_)))))
      refine W.region rfl (wM (vI ↑i_) (wS (vI (↑i_ + 1)) rfl (Step.add rfl rfl (wrap_i64 (by omega))) (wA (vI (↑i_ + 1)) (WL.nil ?_))))
      replace M := M.rechunk 1 (c' := oS v34 ((partW (t.ts.map (flatB e)) t.ks (i_ + 1)).map THit.key)) rfl (by rw [walk_hit hpk hx31 hc_])
      replace M := M.sel (L' := [oS v34 ((partW (t.ts.map (flatB e)) t.ks (i_ + 1)).map THit.key), bk b10 #[(vI p.depth), (vB p.leaf), kv7] 78]) [1, 2] rfl (by decide)
      replace M := M.sub (List.Sublist.refl _) (R' := [EC v 3 a [(vI p.depth), (vB p.leaf), kv7], fS kv7 p.keys, SlAt 3 v l.length cs3, RepL PlT cs3 l, RepS PlT v l]) (fun r h => (List.mem_cons_of_mem _ h))
      exact ⟨_, (by omega), i_ + 1, v34, ⟨(by omega), rfl⟩, ⟨rfl, rfl, rfl, rfl, rfl, rfl, rfl, rfl, rfl⟩, M⟩
     ·
      have h28p := of_decide_eq_false h28
      refine W.skip (W.region rfl (wM (vI (↑(a + 1 + kidsAt e t.ts q (i_ + 1)))) (wA (vI (↑(a + 1 + kidsAt e t.ts q (i_ + 1)))) (WL.nil (W.region rfl ?_)))))
      refine wM (vI ↑i_) (wS (vI (↑i_ + 1)) rfl (Step.add rfl rfl (wrap_i64 (by omega))) (wA (vI (↑i_ + 1)) (WL.nil ?_)))
      replace M := M.rechunk 0 (c' := oS v25 ((partW (t.ts.map (flatB e)) t.ks (i_ + 1)).map THit.key)) rfl (by rw [walk_end (by omega) hc_])
      replace M := M.sub (List.Sublist.refl _) (R' := [EC v 3 a [(vI p.depth), (vB p.leaf), kv7], fS kv7 p.keys, SlAt 3 v l.length cs3, RepL PlT cs3 l, RepS PlT v l]) (fun r h => (List.mem_cons_of_mem _ h))
      exact ⟨_, (by omega), i_ + 1, v25, ⟨(by omega), rfl⟩, ⟨rfl, rfl, rfl, rfl, rfl, rfl, rfl, rfl, rfl⟩, M⟩
    ·
     have h20p := of_decide_eq_false h20
     refine W.exit ?_
     refine thn_exit ?_
     refine thn_exit ?_
     refine inBlk_hit ?_
     refine wR (wM v_ (wM (vI (↑(a + 1 + kidsAt e t.ts q i_))) (wA v_ (wA (vI (↑(a + 1 + kidsAt e t.ts q i_))) (wA (vB true) ?_)))))
     refine WL.nil ?_
     refine W.ret ?_
     refine ⟨.inl rfl, (Value.tuple #[v_, (vI (↑(a + 1 + kidsAt e t.ts q i_))), (vB true)]), ?_, ?_⟩
     · exact ⟨rfl, (Res.r3 (show RV _ _ _ (.tmp 6) v_ from by exact rfl) (show RV _ _ _ (.tmp 7) (vI (↑(a + 1 + kidsAt e t.ts q i_))) from by exact rfl) (show RV _ _ _ (.tmp 8) (vB true) from by exact rfl))⟩
     replace M := M.shareOwn 0 rfl
     have e37 : (flatB d t).map THit.key = (partW (t.ts.map (flatB e)) t.ks i_).map THit.key := by
      rw [he_, ← flatB_keys hW1.1, show t.ks.length + 1 = i_ by omega]
     have hf38 := Sh.reList e37 (M.shr' 0 rfl)
     refine ⟨v_, ?_, M.close [] rfl (by decide) ⟨hf38, trivial⟩⟩
     rw [show a + (placesB d t q).length = a + 1 + kidsAt e t.ts q i_ by rw [he_, ← kidsAt_all, show t.ts.length = i_ by omega]; omega]
end Go.Proofs
set_option maxRecDepth 100000
namespace Go.Proofs
open Go Tp
theorem r_right {G : Nat → Prop} {w : World} (v : Value) (l : List TPl) (u : Value) (ks : List ByteArray)  (row : List THit) (D : Nat) (hP : PlcOk row l D) (hk : ks = row.map THit.key) (hu : upT row) (hrl : row.length ≤ 400000) (hlb : l.length ≤ 1000000) (M : Mem G (fun _ => False) w [] [RepS PlT v l, fS u ks] w) : Rets Tryz.prog 14 #[v, u] w fun r w' => r = (vB true) ∧ Mem G (fun _ => False) w [] [] w' := by
 refine Rets.enter 133 _ Tryz.func14 rfl Tryz.ntmps14 Tryz.results14 (by simp) ?_
 have hle1 := RepS.le' (M.rep 0 rfl)
 have hle2 := SlAt.le' (M.rep 1 rfl)
 have sl3 : IsSl v := RepS.isSl (Mem.rep M 0 rfl)
 have sl4 : IsSl u := SlAt.isSl (Mem.rep M 1 rfl)
 have hbo_ := plc_both hP hk
 obtain ⟨cs5, M⟩ := M.openS 0 rfl
 refine wR (wA (vB false) (WL.nil (W.seq' (wR (wM v ?_)))))
 refine wS (vI ↑l.length) rfl (Step.lenSl Tryz.un43 rfl (M.rep 0 rfl)) (wP (vB ((↑l.length : Int) == (0 : Int))) (wM (vB ((↑l.length : Int) == (0 : Int))) ?_))
 rcases Bool.eq_false_or_eq_true ((↑l.length : Int) == (0 : Int)) with h6 | h6
 ·
  have h6p : (↑l.length : Int) = (0 : Int) := by simpa using h6
  rw [h6]
  refine WL.pass rfl ?_
  refine WL.pass rfl ?_
  refine WL.pass rfl ?_
  refine wS (vB true) rfl (Step.pick (t := true) rfl rfl) (WL.nil ?_)
  refine W.cond (t := true) rfl (fun _ => ?_) (fun h => by cases h)
  refine wR (wM v (wS (vI ↑l.length) rfl (Step.lenSl Tryz.un43 rfl (M.rep 0 rfl)) (wM u (wS (vI ↑ks.length) rfl (Step.lenSl Tryz.un23 rfl (M.rep 3 rfl)) (wP (vB ((↑l.length : Int) == (↑ks.length : Int))) ?_)))))
  refine wA (vB ((↑l.length : Int) == (↑ks.length : Int))) (WL.nil ?_)
  refine W.ret ?_
  refine ⟨.inl rfl, (vB ((↑l.length : Int) == (↑ks.length : Int))), ?_, ?_⟩
  · exact ⟨rfl, (Res.r1 (show RV _ _ _ (.tmp 4) (vB ((↑l.length : Int) == (↑ks.length : Int))) from by exact rfl))⟩
  refine ⟨?_, M.close [] rfl (by decide) trivial⟩
  have := hbo_.1 (by omega)
  simp; omega
 ·
  have h6p : ¬ (↑l.length : Int) = (0 : Int) := by simpa using h6
  rw [h6]
  refine wM u (wS (vI ↑ks.length) rfl (Step.lenSl Tryz.un23 rfl (M.rep 3 rfl)) (wP (vB ((↑ks.length : Int) == (0 : Int))) (wS (vB ((↑ks.length : Int) == (0 : Int))) rfl (Step.pick (t := false) rfl rfl) (WL.nil ?_))))
  refine W.cond (t := (↑ks.length : Int) == (0 : Int)) rfl (fun h7 => ?_) (fun h7 => ?_)
  ·
   have h7p : (↑ks.length : Int) = (0 : Int) := by simpa using h7
   have := hbo_.2 (by omega); omega
  ·
   have h7p : ¬ (↑ks.length : Int) = (0 : Int) := by simpa using h7
   refine W.skip (wR (wA (vI 0) (WL.nil (W.seq' (wR ?_)))))
   refine wA (vI 0) (WL.nil (W.block ?_))
   refine W.loop (fun kk ρ w' => ∃ (i_ : Nat) (D_ : Int), ((i_ ≤ l.length) ∧ (D_ = 0 ∨ D_ = (D : Int)) ∧ kk = l.length - i_) ∧ ρ.has [(0, v), (1, u), (5, (vI D_)), (6, (vI ↑i_))] ∧ Mem G (fun _ => False) w [] [SlAt 3 v l.length cs5, RepL PlT cs5 l, RepS PlT v l, fS u ks]  w') _ ⟨0, 0, ⟨(Nat.zero_le _), (.inl rfl), rfl⟩, ⟨rfl, rfl, rfl, rfl, rfl, rfl⟩, M⟩ ?_
   rintro _ ρ9 w8 ⟨i_, D_, ⟨hi10, hi11, rfl⟩, hρ, M⟩
   obtain ⟨ρ9, rfl⟩ := hρ.know
   clear hρ
   have hdp_ : D_ = 0 ∨ D_ = (D : Int) := hi11
   refine W.seq' (wR (wM (vI ↑i_) (wM v (wS (vI ↑l.length) rfl (Step.lenSl Tryz.un43 rfl (M.rep 0 rfl)) (wP (vB (decide ((↑i_ : Int) < (↑l.length : Int)))) ?_)))))
   refine WL.nil ?_
   refine W.cond (t := decide ((↑i_ : Int) < (↑l.length : Int))) rfl (fun h12 => ?_) (fun h12 => ?_)
   ·
    have h12p := of_decide_eq_true h12
    refine W.skip (W.seq' (W.block (wR (wM v (wM (vI ↑i_) ?_)))))
    obtain ⟨cap14, hb13⟩ := SlAt.base (M.rep 0 rfl) (by omega)
    obtain ⟨p15, hp15⟩ := elem_of_lt (xs := l) (i := i_) (by omega)
    obtain ⟨kv16, M⟩ := pl_open M 0 1 rfl rfl rfl hp15
    have sl17 : IsSl kv16 := SlAt.isSl (Mem.rep M 1 rfl)
    obtain ⟨hk1_, hk4_, hk2_⟩ := hP.keys _ _ hp15
    refine wS (vQ v i_ 3) rfl (sX i_ Tryz.un43 Tryz.el78 rfl rfl hb13) (wP (vR v i_ 3 2) (wS kv16 rfl (Step.loadE (k := 2) Tryz.sc23 (M.rep 0 rfl : EC _ _ _ _ _) (by decide) rfl rfl) (wS (vI ↑p15.keys.length) rfl (Step.lenSl Tryz.un23 rfl (M.rep 1 rfl)) (wA (vI ↑p15.keys.length) (WL.nil ?_)))))
    refine W.seq' (wR (wM (vI ↑p15.keys.length) (wP (vB (decide ((↑p15.keys.length : Int) > (4 : Int)))) (wM (vB (decide ((↑p15.keys.length : Int) > (4 : Int)))) ?_))))
    rcases Bool.eq_false_or_eq_true (decide ((↑p15.keys.length : Int) > (4 : Int))) with h18 | h18
    ·
     have h18p := of_decide_eq_true h18
     omega
    ·
     have h18p := of_decide_eq_false h18
     rw [h18]
     refine wM (vI ↑p15.keys.length) (wP (vB (decide ((↑p15.keys.length : Int) < (1 : Int)))) (wS (vB (decide ((↑p15.keys.length : Int) < (1 : Int)))) rfl (Step.pick (t := false) rfl rfl) (wM (vB (decide ((↑p15.keys.length : Int) < (1 : Int)))) ?_)))
     rcases Bool.eq_false_or_eq_true (decide ((↑p15.keys.length : Int) < (1 : Int))) with h19 | h19
     ·
      have h19p := of_decide_eq_true h19
      omega
     ·
      have h19p := of_decide_eq_false h19
      rw [h19]
      refine wM (vI ↑p15.keys.length) (wP (vB (decide ((↑p15.keys.length : Int) < (2 : Int)))) (wM (vB (decide ((↑p15.keys.length : Int) < (2 : Int)))) ?_))
      rcases Bool.eq_false_or_eq_true (decide ((↑p15.keys.length : Int) < (2 : Int))) with h20 | h20
      ·
       have h20p := of_decide_eq_true h20
       rw [h20]
       refine wM (vI ↑i_) (wP (vB (decide ((↑i_ : Int) > (0 : Int)))) (wS (vB (decide ((↑i_ : Int) > (0 : Int)))) rfl (Step.pick (t := true) rfl rfl) (wS (vB (decide ((↑i_ : Int) > (0 : Int)))) rfl (Step.pick (t := false) rfl rfl) (wM (vB (decide ((↑i_ : Int) > (0 : Int)))) ?_))))
       rcases Bool.eq_false_or_eq_true (decide ((↑i_ : Int) > (0 : Int))) with h21 | h21
       ·
        have h21p := of_decide_eq_true h21
        omega
       ·
        have h21p := of_decide_eq_false h21
        rw [h21]
        refine wM v (wM (vI ↑i_) (wS (vQ v i_ 3) rfl (sX i_ Tryz.un43 Tryz.el78 rfl rfl hb13) (wP (vR v i_ 3 1) (wS (vB p15.leaf) rfl (Step.loadE (k := 1) Tryz.sc4 (M.rep 0 rfl : EC _ _ _ _ _) (by decide) rfl rfl) (wM (vB p15.leaf) ?_)))))
        rcases Bool.eq_false_or_eq_true (p15.leaf) with h22 | h22
        ·
         rw [h22]
         refine wM (vI D_) (wP (vB (decide ((D_ : Int) > (0 : Int)))) (wS (vB (decide ((D_ : Int) > (0 : Int)))) rfl (Step.pick (t := true) rfl rfl) (wM (vB (decide ((D_ : Int) > (0 : Int)))) ?_)))
         rcases Bool.eq_false_or_eq_true (decide ((D_ : Int) > (0 : Int))) with h23 | h23
         ·
          have h23p := of_decide_eq_true h23
          rw [h23]
          refine wM v (wM (vI ↑i_) (wS (vQ v i_ 3) rfl (sX i_ Tryz.un43 Tryz.el78 rfl rfl hb13) (wP (vQ v i_ 3) (wS (vI p15.depth) rfl (Step.loadE (k := 0) Tryz.sc3 (M.rep 0 rfl : EC _ _ _ _ _) (by decide) rfl rfl) (wM (vI D_) ?_)))))
          refine wP (vB ((p15.depth : Int) != (D_ : Int))) (wS (vB ((p15.depth : Int) != (D_ : Int))) rfl (Step.pick (t := true) rfl rfl) (wS (vB ((p15.depth : Int) != (D_ : Int))) rfl (Step.pick (t := false) rfl rfl) (WL.nil ?_)))
          refine W.cond (t := (p15.depth : Int) != (D_ : Int)) rfl (fun h24 => ?_) (fun h24 => ?_)
          ·
           have h24p : ¬ (p15.depth : Int) = (D_ : Int) := by simpa using h24
           have hlf_ := hP.leaf _ (List.mem_of_getElem? hp15) h22
           omega
          ·
           have h24p : (p15.depth : Int) = (D_ : Int) := by simpa using h24
           refine W.skip (wR (wM v (wM (vI ↑i_) (wS (vQ v i_ 3) rfl (sX i_ Tryz.un43 Tryz.el78 rfl rfl hb13) (wP (vR v i_ 3 1) ?_)))))
           refine wS (vB true) rfl (Step.cast (congrArg Value.bool h22) (Step.loadE (k := 1) Tryz.sc4 (M.rep 0 rfl : EC _ _ _ _ _) (by decide) rfl rfl)) (WL.nil ?_)
           refine W.cond (t := true) rfl (fun _ => ?_) (fun h => by cases h)
           refine W.region rfl (wM v (wM (vI ↑i_) (wS (vQ v i_ 3) rfl (sX i_ Tryz.un43 Tryz.el78 rfl rfl hb13) (wP (vQ v i_ 3) (wS (vI p15.depth) rfl (Step.loadE (k := 0) Tryz.sc3 (M.rep 0 rfl : EC _ _ _ _ _) (by decide) rfl rfl) ?_)))))
           refine wA (vI p15.depth) (WL.nil (W.region rfl (wM (vI ↑i_) (wS (vI (↑i_ + 1)) rfl (Step.add rfl rfl (wrap_i64 (by omega))) (wA (vI (↑i_ + 1)) ?_)))))
           refine WL.nil ?_
           replace M := M.sub (List.Sublist.refl _) (R' := [SlAt 3 v l.length cs5, RepL PlT cs5 l, RepS PlT v l, fS u ks]) (fun r h => (List.mem_cons_of_mem _ (List.mem_cons_of_mem _ h)))
           exact ⟨_, (by omega), i_ + 1, p15.depth, ⟨(by omega), (.inr (hP.leaf _ (List.mem_of_getElem? hp15) h22)), rfl⟩, ⟨rfl, rfl, rfl, rfl, rfl, rfl⟩, M⟩
         ·
          have h23p := of_decide_eq_false h23
          rw [h23]
          refine WL.pass rfl ?_
          refine WL.pass rfl ?_
          refine WL.pass rfl ?_
          refine WL.pass rfl ?_
          refine WL.pass rfl ?_
          refine WL.pass rfl ?_
          refine WL.pass rfl ?_
          refine wS (vB false) rfl (Step.pick (t := false) rfl rfl) (wS (vB false) rfl (Step.pick (t := false) rfl rfl) (WL.nil ?_))
          refine W.cond (t := false) rfl (fun h => by cases h) (fun _ => ?_)
          refine W.skip (wR (wM v (wM (vI ↑i_) (wS (vQ v i_ 3) rfl (sX i_ Tryz.un43 Tryz.el78 rfl rfl hb13) (wP (vR v i_ 3 1) ?_)))))
          refine wS (vB true) rfl (Step.cast (congrArg Value.bool h22) (Step.loadE (k := 1) Tryz.sc4 (M.rep 0 rfl : EC _ _ _ _ _) (by decide) rfl rfl)) (WL.nil ?_)
          refine W.cond (t := true) rfl (fun _ => ?_) (fun h => by cases h)
          refine W.region rfl (wM v (wM (vI ↑i_) (wS (vQ v i_ 3) rfl (sX i_ Tryz.un43 Tryz.el78 rfl rfl hb13) (wP (vQ v i_ 3) (wS (vI p15.depth) rfl (Step.loadE (k := 0) Tryz.sc3 (M.rep 0 rfl : EC _ _ _ _ _) (by decide) rfl rfl) ?_)))))
          refine wA (vI p15.depth) (WL.nil (W.region rfl (wM (vI ↑i_) (wS (vI (↑i_ + 1)) rfl (Step.add rfl rfl (wrap_i64 (by omega))) (wA (vI (↑i_ + 1)) ?_)))))
          refine WL.nil ?_
          replace M := M.sub (List.Sublist.refl _) (R' := [SlAt 3 v l.length cs5, RepL PlT cs5 l, RepS PlT v l, fS u ks]) (fun r h => (List.mem_cons_of_mem _ (List.mem_cons_of_mem _ h)))
          exact ⟨_, (by omega), i_ + 1, p15.depth, ⟨(by omega), (.inr (hP.leaf _ (List.mem_of_getElem? hp15) h22)), rfl⟩, ⟨rfl, rfl, rfl, rfl, rfl, rfl⟩, M⟩
        ·
         rw [h22]
         refine WL.pass rfl ?_
         refine WL.pass rfl ?_
         refine wS (vB false) rfl (Step.pick (t := false) rfl rfl) (wM (vB false) ?_)
         refine WL.pass rfl ?_
         refine WL.pass rfl ?_
         refine WL.pass rfl ?_
         refine WL.pass rfl ?_
         refine WL.pass rfl ?_
         refine WL.pass rfl ?_
         refine WL.pass rfl ?_
         refine wS (vB false) rfl (Step.pick (t := false) rfl rfl) (wS (vB false) rfl (Step.pick (t := false) rfl rfl) (WL.nil ?_))
         refine W.cond (t := false) rfl (fun h => by cases h) (fun _ => ?_)
         refine W.skip (wR (wM v (wM (vI ↑i_) (wS (vQ v i_ 3) rfl (sX i_ Tryz.un43 Tryz.el78 rfl rfl hb13) (wP (vR v i_ 3 1) ?_)))))
         refine wS (vB false) rfl (Step.cast (congrArg Value.bool h22) (Step.loadE (k := 1) Tryz.sc4 (M.rep 0 rfl : EC _ _ _ _ _) (by decide) rfl rfl)) (WL.nil ?_)
         refine W.cond (t := false) rfl (fun h => by cases h) (fun _ => ?_)
         refine W.skip (W.region rfl (wM (vI ↑i_) (wS (vI (↑i_ + 1)) rfl (Step.add rfl rfl (wrap_i64 (by omega))) (wA (vI (↑i_ + 1)) (WL.nil ?_)))))
         replace M := M.sub (List.Sublist.refl _) (R' := [SlAt 3 v l.length cs5, RepL PlT cs5 l, RepS PlT v l, fS u ks]) (fun r h => (List.mem_cons_of_mem _ (List.mem_cons_of_mem _ h)))
         exact ⟨_, (by omega), i_ + 1, D_, ⟨(by omega), hdp_, rfl⟩, ⟨rfl, rfl, rfl, rfl, rfl, rfl⟩, M⟩
      ·
       have h20p := of_decide_eq_false h20
       rw [h20]
       refine WL.pass rfl ?_
       refine WL.pass rfl ?_
       refine wS (vB false) rfl (Step.pick (t := false) rfl rfl) (wS (vB false) rfl (Step.pick (t := false) rfl rfl) (wM (vB false) (wM v (wM (vI ↑i_) (wS (vQ v i_ 3) rfl (sX i_ Tryz.un43 Tryz.el78 rfl rfl hb13) ?_)))))
       refine wP (vR v i_ 3 1) (wS (vB p15.leaf) rfl (Step.loadE (k := 1) Tryz.sc4 (M.rep 0 rfl : EC _ _ _ _ _) (by decide) rfl rfl) (wM (vB p15.leaf) ?_))
       rcases Bool.eq_false_or_eq_true (p15.leaf) with h25 | h25
       ·
        rw [h25]
        refine wM (vI D_) (wP (vB (decide ((D_ : Int) > (0 : Int)))) (wS (vB (decide ((D_ : Int) > (0 : Int)))) rfl (Step.pick (t := true) rfl rfl) (wM (vB (decide ((D_ : Int) > (0 : Int)))) ?_)))
        rcases Bool.eq_false_or_eq_true (decide ((D_ : Int) > (0 : Int))) with h26 | h26
        ·
         have h26p := of_decide_eq_true h26
         rw [h26]
         refine wM v (wM (vI ↑i_) (wS (vQ v i_ 3) rfl (sX i_ Tryz.un43 Tryz.el78 rfl rfl hb13) (wP (vQ v i_ 3) (wS (vI p15.depth) rfl (Step.loadE (k := 0) Tryz.sc3 (M.rep 0 rfl : EC _ _ _ _ _) (by decide) rfl rfl) (wM (vI D_) ?_)))))
         refine wP (vB ((p15.depth : Int) != (D_ : Int))) (wS (vB ((p15.depth : Int) != (D_ : Int))) rfl (Step.pick (t := true) rfl rfl) (wS (vB ((p15.depth : Int) != (D_ : Int))) rfl (Step.pick (t := false) rfl rfl) (WL.nil ?_)))
         refine W.cond (t := (p15.depth : Int) != (D_ : Int)) rfl (fun h27 => ?_) (fun h27 => ?_)
         ·
          have h27p : ¬ (p15.depth : Int) = (D_ : Int) := by simpa using h27
          have hlf_ := hP.leaf _ (List.mem_of_getElem? hp15) h25
          omega
         ·
          have h27p : (p15.depth : Int) = (D_ : Int) := by simpa using h27
          refine W.skip (wR (wM v (wM (vI ↑i_) (wS (vQ v i_ 3) rfl (sX i_ Tryz.un43 Tryz.el78 rfl rfl hb13) (wP (vR v i_ 3 1) ?_)))))
          refine wS (vB true) rfl (Step.cast (congrArg Value.bool h25) (Step.loadE (k := 1) Tryz.sc4 (M.rep 0 rfl : EC _ _ _ _ _) (by decide) rfl rfl)) (WL.nil ?_)
          refine W.cond (t := true) rfl (fun _ => ?_) (fun h => by cases h)
          refine W.region rfl (wM v (wM (vI ↑i_) (wS (vQ v i_ 3) rfl (sX i_ Tryz.un43 Tryz.el78 rfl rfl hb13) (wP (vQ v i_ 3) (wS (vI p15.depth) rfl (Step.loadE (k := 0) Tryz.sc3 (M.rep 0 rfl : EC _ _ _ _ _) (by decide) rfl rfl) ?_)))))
          refine wA (vI p15.depth) (WL.nil (W.region rfl (wM (vI ↑i_) (wS (vI (↑i_ + 1)) rfl (Step.add rfl rfl (wrap_i64 (by omega))) (wA (vI (↑i_ + 1)) ?_)))))
          refine WL.nil ?_
          replace M := M.sub (List.Sublist.refl _) (R' := [SlAt 3 v l.length cs5, RepL PlT cs5 l, RepS PlT v l, fS u ks]) (fun r h => (List.mem_cons_of_mem _ (List.mem_cons_of_mem _ h)))
          exact ⟨_, (by omega), i_ + 1, p15.depth, ⟨(by omega), (.inr (hP.leaf _ (List.mem_of_getElem? hp15) h25)), rfl⟩, ⟨rfl, rfl, rfl, rfl, rfl, rfl⟩, M⟩
        ·
         have h26p := of_decide_eq_false h26
         rw [h26]
         refine WL.pass rfl ?_
         refine WL.pass rfl ?_
         refine WL.pass rfl ?_
         refine WL.pass rfl ?_
         refine WL.pass rfl ?_
         refine WL.pass rfl ?_
         refine WL.pass rfl ?_
         refine wS (vB false) rfl (Step.pick (t := false) rfl rfl) (wS (vB false) rfl (Step.pick (t := false) rfl rfl) (WL.nil ?_))
         refine W.cond (t := false) rfl (fun h => by cases h) (fun _ => ?_)
         refine W.skip (wR (wM v (wM (vI ↑i_) (wS (vQ v i_ 3) rfl (sX i_ Tryz.un43 Tryz.el78 rfl rfl hb13) (wP (vR v i_ 3 1) ?_)))))
         refine wS (vB true) rfl (Step.cast (congrArg Value.bool h25) (Step.loadE (k := 1) Tryz.sc4 (M.rep 0 rfl : EC _ _ _ _ _) (by decide) rfl rfl)) (WL.nil ?_)
         refine W.cond (t := true) rfl (fun _ => ?_) (fun h => by cases h)
         refine W.region rfl (wM v (wM (vI ↑i_) (wS (vQ v i_ 3) rfl (sX i_ Tryz.un43 Tryz.el78 rfl rfl hb13) (wP (vQ v i_ 3) (wS (vI p15.depth) rfl (Step.loadE (k := 0) Tryz.sc3 (M.rep 0 rfl : EC _ _ _ _ _) (by decide) rfl rfl) ?_)))))
         refine wA (vI p15.depth) (WL.nil (W.region rfl (wM (vI ↑i_) (wS (vI (↑i_ + 1)) rfl (Step.add rfl rfl (wrap_i64 (by omega))) (wA (vI (↑i_ + 1)) ?_)))))
         refine WL.nil ?_
         replace M := M.sub (List.Sublist.refl _) (R' := [SlAt 3 v l.length cs5, RepL PlT cs5 l, RepS PlT v l, fS u ks]) (fun r h => (List.mem_cons_of_mem _ (List.mem_cons_of_mem _ h)))
         exact ⟨_, (by omega), i_ + 1, p15.depth, ⟨(by omega), (.inr (hP.leaf _ (List.mem_of_getElem? hp15) h25)), rfl⟩, ⟨rfl, rfl, rfl, rfl, rfl, rfl⟩, M⟩
       ·
        rw [h25]
        refine WL.pass rfl ?_
        refine WL.pass rfl ?_
        refine wS (vB false) rfl (Step.pick (t := false) rfl rfl) (wM (vB false) ?_)
        refine WL.pass rfl ?_
        refine WL.pass rfl ?_
        refine WL.pass rfl ?_
        refine WL.pass rfl ?_
        refine WL.pass rfl ?_
        refine WL.pass rfl ?_
        refine WL.pass rfl ?_
        refine wS (vB false) rfl (Step.pick (t := false) rfl rfl) (wS (vB false) rfl (Step.pick (t := false) rfl rfl) (WL.nil ?_))
        refine W.cond (t := false) rfl (fun h => by cases h) (fun _ => ?_)
        refine W.skip (wR (wM v (wM (vI ↑i_) (wS (vQ v i_ 3) rfl (sX i_ Tryz.un43 Tryz.el78 rfl rfl hb13) (wP (vR v i_ 3 1) ?_)))))
        refine wS (vB false) rfl (Step.cast (congrArg Value.bool h25) (Step.loadE (k := 1) Tryz.sc4 (M.rep 0 rfl : EC _ _ _ _ _) (by decide) rfl rfl)) (WL.nil ?_)
        refine W.cond (t := false) rfl (fun h => by cases h) (fun _ => ?_)
        refine W.skip (W.region rfl (wM (vI ↑i_) (wS (vI (↑i_ + 1)) rfl (Step.add rfl rfl (wrap_i64 (by omega))) (wA (vI (↑i_ + 1)) (WL.nil ?_)))))
        replace M := M.sub (List.Sublist.refl _) (R' := [SlAt 3 v l.length cs5, RepL PlT cs5 l, RepS PlT v l, fS u ks]) (fun r h => (List.mem_cons_of_mem _ (List.mem_cons_of_mem _ h)))
        exact ⟨_, (by omega), i_ + 1, D_, ⟨(by omega), hdp_, rfl⟩, ⟨rfl, rfl, rfl, rfl, rfl, rfl⟩, M⟩
   ·
    have h12p := of_decide_eq_false h12
    refine W.exit ?_
    refine thn_exit ?_
    refine thn_exit ?_
    refine inBlk_hit ?_
    refine W.seq' ?_
    obtain ⟨d, t, hW, hrow, hlen_⟩ := hP.walk (fun h_ => by rw [h_] at h6; simp at h6)
    have hfl_ : ((flatB d t).map THit.key).length = ks.length := by rw [hk, hrow]
    have hdd_ : d ≤ 400000 := by have h1_ := walk_len hW; have h2_ := hP.deep; exact walk_deep hW hrow (by omega)
    refine W.region rfl (wM v ?_)
    refine WL.callX rfl (r_walk d v l 0 1 t hW (by omega) (by rw [← hrow]; omega) (by omega) (M.enter0 ⟨(M.shr' 2 rfl), trivial⟩)) (CallsF.func Tryz.en38 rfl) ?_
    rintro _ w29 ⟨v28, rfl, m⟩
    replace M := M.leave0 m
    clear m
    have sl30 : IsSl v28 := SlAt.isSl (Mem.rep M 0 rfl)
    have hle31 := SlAt.le' (M.rep 0 rfl)
    refine wM (Value.tuple #[v28, (vI (↑(0 + (placesB d t 1).length))), (vB true)]) (wP v28 (wP (vI (↑(0 + (placesB d t 1).length))) (wP (vB true) (wA v28 (wA (vI (↑(0 + (placesB d t 1).length))) ?_)))))
    refine wA (vB true) (WL.nil (W.seq' (wR (wM (vB true) (wP (vB false) ?_)))))
    refine wM (vB false) (wM (vI (↑(0 + (placesB d t 1).length))) (wM v (wS (vI ↑l.length) rfl (Step.lenSl Tryz.un43 rfl (M.rep 1 rfl)) (wP (vB ((↑(0 + (placesB d t 1).length) : Int) != (↑l.length : Int))) (wS (vB ((↑(0 + (placesB d t 1).length) : Int) != (↑l.length : Int))) rfl (Step.pick (t := false) rfl rfl) ?_)))))
    refine wM (vB ((↑(0 + (placesB d t 1).length) : Int) != (↑l.length : Int))) ?_
    rcases Bool.eq_false_or_eq_true ((↑(0 + (placesB d t 1).length) : Int) != (↑l.length : Int)) with h32 | h32
    ·
     have h32p : ¬ (↑(0 + (placesB d t 1).length) : Int) = (↑l.length : Int) := by simpa using h32
     omega
    ·
     have h32p : (↑(0 + (placesB d t 1).length) : Int) = (↑l.length : Int) := by simpa using h32
     rw [h32]
     refine wM v28 (wS (vI (↑(((flatB d t).map THit.key).length))) rfl (Step.lenSl Tryz.un23 rfl (M.rep 0 rfl)) (wM u (wS (vI ↑ks.length) rfl (Step.lenSl Tryz.un23 rfl (M.rep 4 rfl)) (wP (vB ((↑(((flatB d t).map THit.key).length) : Int) != (↑ks.length : Int))) (wS (vB ((↑(((flatB d t).map THit.key).length) : Int) != (↑ks.length : Int))) rfl (Step.pick (t := false) rfl rfl) ?_)))))
     refine WL.nil ?_
     refine W.cond (t := (↑(((flatB d t).map THit.key).length) : Int) != (↑ks.length : Int)) rfl (fun h33 => ?_) (fun h33 => ?_)
     ·
      have h33p : ¬ (↑(((flatB d t).map THit.key).length) : Int) = (↑ks.length : Int) := by simpa using h33
      omega
     ·
      have h33p : (↑(((flatB d t).map THit.key).length) : Int) = (↑ks.length : Int) := by simpa using h33
      refine W.skip (W.seq' (wR (wA (vI 0) (WL.nil (W.block ?_)))))
      refine W.loop (fun kk ρ w' => ∃ (i_ : Nat), ((i_ ≤ ((flatB d t).map THit.key).length) ∧ kk = ((flatB d t).map THit.key).length - i_) ∧ ρ.has [(1, u), (8, v28), (11, (vI ↑i_))] ∧ Mem G (fun _ => False) w [] [fS v28 ((flatB d t).map THit.key), SlAt 3 v l.length cs5, RepL PlT cs5 l, RepS PlT v l, fS u ks]  w') _ ⟨0, ⟨(Nat.zero_le _), rfl⟩, ⟨rfl, rfl, rfl, rfl, rfl⟩, M⟩ ?_
      rintro _ ρ35 w34 ⟨i_, ⟨hi36, rfl⟩, hρ, M⟩
      obtain ⟨ρ35, rfl⟩ := hρ.know
      clear hρ
      refine W.seq' (wR (wM (vI ↑i_) (wM v28 (wS (vI (↑(((flatB d t).map THit.key).length))) rfl (Step.lenSl Tryz.un23 rfl (M.rep 0 rfl)) (wP (vB (decide ((↑i_ : Int) < (↑(((flatB d t).map THit.key).length) : Int)))) ?_)))))
      refine WL.nil ?_
      refine W.cond (t := decide ((↑i_ : Int) < (↑(((flatB d t).map THit.key).length) : Int))) rfl (fun h37 => ?_) (fun h37 => ?_)
      ·
       have h37p := of_decide_eq_true h37
       refine W.skip (W.seq' (W.block (W.seq' ?_)))
       obtain ⟨cap39, hb38⟩ := SlAt.base (M.rep 0 rfl) (by omega)
       obtain ⟨x40, hx40⟩ := elem_of_lt (xs := (flatB d t).map THit.key) (i := i_) (by omega)
       obtain ⟨cap42, hb41⟩ := SlAt.base (M.rep 4 rfl) (by omega)
       obtain ⟨x43, hx43⟩ := elem_of_lt (xs := ks) (i := i_) (by omega)
       have hxy_ : x40 = x43 := Option.some.inj (hx40.symm.trans (by rw [← hrow, ← hk]; exact hx43))
       rcases Bool.eq_false_or_eq_true (!(x40.toList == x43.toList)) with h44 | h44
       ·
        simp [hxy_] at h44
       ·
        rcases Bool.eq_false_or_eq_true (decide ((↑i_ : Int) > (0 : Int))) with h45 | h45
        ·
         have h45p := of_decide_eq_true h45
         obtain ⟨x46, hx46⟩ := elem_of_lt (xs := (flatB d t).map THit.key) (i := i_ - 1) (by omega)
         refine W.drawn M [0, 1, 2, 3, 4, 5, 6, 7, 8, 9, 10, 11, 12, 13, 14, 15, 16, 17, 18, 19, 20, 21, 22, 23, 24] [] [] _ _ sE (fun _ h => h) Tryz.mixed (by kernel_rfl) ?_
         refine tP v28 rfl (fun w => (Step.move rfl)) ?_
         refine tP (vI ↑i_) rfl (fun w => (Step.move rfl)) ?_
         refine tP (vQ v28 i_ 1) rfl (fun w => (sX i_ Tryz.un23 Tryz.el9 rfl rfl hb38)) ?_
         refine tR (vS x40) rfl (fun A w M => (Step.loadE (k := 0) Tryz.sc9 (flat_ec (M.rep 0 rfl) hx40 strE_len) (by decide) rfl rfl)) ?_
         refine tP u rfl (fun w => (Step.move rfl)) ?_
         refine tP (vI ↑i_) rfl (fun w => (Step.move rfl)) ?_
         refine tP (vQ u i_ 1) rfl (fun w => (sX i_ Tryz.un23 Tryz.el9 rfl rfl hb41)) ?_
         refine tR (vS x43) rfl (fun A w M => (Step.loadE (k := 0) Tryz.sc9 (flat_ec (M.rep 4 rfl) hx43 strE_len) (by decide) rfl rfl)) ?_
         refine tP (vB false) rfl (fun w => (Step.cast (congrArg Value.bool h44) sP)) ?_
         refine tP (vB false) rfl (fun w => (Step.move rfl)) ?_
         refine tP (vI ↑i_) rfl (fun w => (Step.move rfl)) ?_
         refine tP (vB true) rfl (fun w => (Step.cast (congrArg Value.bool h45) sP)) ?_
         refine tP (vB true) rfl (fun w => (Step.move rfl)) ?_
         refine tP v28 rfl (fun w => (Step.move rfl)) ?_
         refine tP (vI ↑i_) rfl (fun w => (Step.move rfl)) ?_
         refine tP (vI ((↑i_ : Int) - 1)) rfl (fun w => (Step.sub rfl rfl (wrap_i64 (by omega)))) ?_
         refine tP (vQ v28 (i_ - 1) 1) rfl (fun w => (sX (i_ - 1) Tryz.un23 Tryz.el9 rfl rfl hb38)) ?_
         refine tR (vS x46) rfl (fun A w M => (Step.loadE (k := 0) Tryz.sc9 (flat_ec (M.rep 0 rfl) hx46 strE_len) (by decide) rfl rfl)) ?_
         refine tP v28 rfl (fun w => (Step.move rfl)) ?_
         refine tP (vI ↑i_) rfl (fun w => (Step.move rfl)) ?_
         refine tP (vQ v28 i_ 1) rfl (fun w => (sX i_ Tryz.un23 Tryz.el9 rfl rfl hb38)) ?_
         refine tR (vS x40) rfl (fun A w M => (Step.loadE (k := 0) Tryz.sc9 (flat_ec (M.rep 0 rfl) hx40 strE_len) (by decide) rfl rfl)) ?_
         refine tP (vB (!(sLt x46 x40))) rfl (fun w => sP) ?_
         refine tP (vB (!(sLt x46 x40))) rfl (fun w => (Step.pick (t := true) rfl rfl)) ?_
         refine tP (vB (!(sLt x46 x40))) rfl (fun w => (Step.pick (t := false) rfl rfl)) ?_
         refine TW.done (fun w47 M => ?_)
         refine W.cond (t := !(sLt x46 x40)) rfl (fun h48 => ?_) (fun h48 => ?_)
         ·
          have hup_ := keys_up hu (by rw [hrow]; exact hx46) (by rw [hrow]; exact hx40) (by omega)
          simp [hup_] at h48
         ·
          refine W.skip (W.region rfl (wM (vI ↑i_) (wS (vI (↑i_ + 1)) rfl (Step.add rfl rfl (wrap_i64 (by omega))) (wA (vI (↑i_ + 1)) (WL.nil ?_)))))
          exact ⟨_, (by omega), i_ + 1, ⟨(by omega), rfl⟩, ⟨rfl, rfl, rfl, rfl, rfl⟩, M⟩
        ·
         have h45p := of_decide_eq_false h45
         refine W.drawn M [0, 1, 2, 3, 4, 5, 6, 7, 8, 9, 10, 11, 12, 13, 14, 15, 16, 17, 18, 19, 20, 21, 22, 23, 24] [] [] _ _ sE (fun _ h => h) Tryz.mixed (by kernel_rfl) ?_
         refine tP v28 rfl (fun w => (Step.move rfl)) ?_
         refine tP (vI ↑i_) rfl (fun w => (Step.move rfl)) ?_
         refine tP (vQ v28 i_ 1) rfl (fun w => (sX i_ Tryz.un23 Tryz.el9 rfl rfl hb38)) ?_
         refine tR (vS x40) rfl (fun A w M => (Step.loadE (k := 0) Tryz.sc9 (flat_ec (M.rep 0 rfl) hx40 strE_len) (by decide) rfl rfl)) ?_
         refine tP u rfl (fun w => (Step.move rfl)) ?_
         refine tP (vI ↑i_) rfl (fun w => (Step.move rfl)) ?_
         refine tP (vQ u i_ 1) rfl (fun w => (sX i_ Tryz.un23 Tryz.el9 rfl rfl hb41)) ?_
         refine tR (vS x43) rfl (fun A w M => (Step.loadE (k := 0) Tryz.sc9 (flat_ec (M.rep 4 rfl) hx43 strE_len) (by decide) rfl rfl)) ?_
         refine tP (vB false) rfl (fun w => (Step.cast (congrArg Value.bool h44) sP)) ?_
         refine tP (vB false) rfl (fun w => (Step.move rfl)) ?_
         refine tP (vI ↑i_) rfl (fun w => (Step.move rfl)) ?_
         refine tP (vB false) rfl (fun w => (Step.cast (congrArg Value.bool h45) sP)) ?_
         refine tP (vB false) rfl (fun w => (Step.move rfl)) ?_
         refine TW.skip rfl rfl ?_
         refine TW.skip rfl rfl ?_
         refine TW.skip rfl rfl ?_
         refine TW.skip rfl rfl ?_
         refine TW.skip rfl rfl ?_
         refine TW.skip rfl rfl ?_
         refine TW.skip rfl rfl ?_
         refine TW.skip rfl rfl ?_
         refine TW.skip rfl rfl ?_
         refine TW.skip rfl rfl ?_
         refine tP (vB false) rfl (fun w => (Step.pick (t := false) rfl rfl)) ?_
         refine tP (vB false) rfl (fun w => (Step.pick (t := false) rfl rfl)) ?_
         refine TW.done (fun w49 M => ?_)
         refine W.cond (t := false) rfl (fun h => by cases h) (fun _ => ?_)
         refine W.skip (W.region rfl (wM (vI ↑i_) (wS (vI (↑i_ + 1)) rfl (Step.add rfl rfl (wrap_i64 (by omega))) (wA (vI (↑i_ + 1)) (WL.nil ?_)))))
         exact ⟨_, (by omega), i_ + 1, ⟨(by omega), rfl⟩, ⟨rfl, rfl, rfl, rfl, rfl⟩, M⟩
      ·
       have h37p := of_decide_eq_false h37
       refine W.exit ?_
       refine thn_exit ?_
       refine thn_exit ?_
       refine inBlk_hit ?_
       refine wR (wA (vB true) (WL.nil ?_))
       refine W.ret ?_
       refine ⟨.inl rfl, (vB true), ?_, ?_⟩
       · exact ⟨rfl, (Res.r1 (show RV _ _ _ (.tmp 4) (vB true) from by exact rfl))⟩
       refine ⟨?_, M.close [] rfl (by decide) trivial⟩
       rfl
end Go.Proofs
namespace Tp
open Go
structure TAct where
  do_ : Int
  k : ByteArray
  v : Int
deriving DecidableEq, Inhabited
def actE (a : TAct) : List Value := [.int .i64 a.do_, .string a.k, .int .i64 a.v]
theorem actE_len (a : TAct) : (actE a).length = 3 := rfl
theorem actE_cel (a : TAct) : Step.Cellish (actE a) := cel_cons rfl (cel_cons rfl (cel_cons rfl cel_nil))
def fewT (l : List TAct) (m : Int) : Bool := l.all (fun a => decide ((a.k.size : Int) ≤ 60)) && decide ((l.length : Int) ≤ m)
def doesR (row : List THit) (a : TAct) : List THit :=
  if pickI a.do_ 4 = 0 ∨ pickI a.do_ 4 = 1 then putR row ⟨a.k, a.v⟩ else if pickI a.do_ 4 = 2 then delL row a.k else row
section
variable {l : List TAct} {i : Nat} {x : TAct} {m : Int} {row : List THit}
theorem few_bad (hx : l[i]? = some x) (h : (x.k.size : Int) > 60) : fewT l m = false := by
  unfold fewT
  rw [Bool.and_eq_false_iff]
  left
  rw [List.all_eq_false]
  exact ⟨x, List.mem_of_getElem? hx, by simp; omega⟩
theorem few_good (hb : ∀ j u, j < i → l[j]? = some u → (fun u : TAct => decide ((u.k.size : Int) > 60)) u = false) (hi : l.length ≤ i) : fewT l m = decide ((l.length : Int) ≤ m) := by
  unfold fewT
  rw [show l.all (fun a => decide ((a.k.size : Int) ≤ 60)) = true from List.all_eq_true.2 fun u hu => ?_, Bool.true_and]
  obtain ⟨j, hj⟩ := List.getElem?_of_mem hu
  have := hb j u (by have := (List.getElem?_eq_some_iff.1 hj).1; omega) hj
  simp at this ⊢; omega
theorem few_fact (h : fewT l m = true) : (l.length : Int) ≤ m := by
  unfold fewT at h; simp at h; exact h.2
theorem map_snoc {α β : Type} {f : α → β} {l : List α} {i : Nat} {x : α} (hx : l[i]? = some x) : (l.take (i + 1)).map f = (l.take i).map f ++ ([f x] : List β) := by rw [← take_snoc hx]; simp
theorem does_put (h : pickI x.do_ 4 = 0 ∨ pickI x.do_ 4 = 1) : doesR row x = putR row ⟨x.k, x.v⟩ := by unfold doesR; rw [if_pos h]
theorem does_del (h0 : ¬ pickI x.do_ 4 = 0) (h1 : ¬ pickI x.do_ 4 = 1) (h2 : pickI x.do_ 4 = 2) : doesR row x = delL row x.k := by unfold doesR; rw [if_neg (by simp [h0, h1]), if_pos h2]
theorem does_get (h0 : ¬ pickI x.do_ 4 = 0) (h1 : ¬ pickI x.do_ 4 = 1) (h2 : ¬ pickI x.do_ 4 = 2) : doesR row x = row := by unfold doesR; rw [if_neg (by simp [h0, h1]), if_neg h2]
end
theorem Step.bytesStr {P : Program} {ρ : Env} {w : World} {ty s t e ty0 : TypeId} {x : Operand} {b len cap : Nat} {c : Array Value} {fz : Nat × Nat} (xs : List Int) (hs : Und P s (.slice e)) (he : Und P e (.int .u8)) (ht : Und P t .string)
    (hx : ρ.ev x = .slice (some ⟨b, 0, none⟩) len cap) (hb : w.heap[b]? = some (.cells c ty0 fz)) (hc : c.toList.take len = xs.map (.int .u8)) (hl : xs.length = len) : Step P (.convert s t x) ty ρ w (.string (strOfNums xs)) w := by
  intro d pos aft g
  left
  have h := run_convert_bytes_arg (P := P) w s e hs he b 0 len cap xs hl (fun i hi => by
    rw [Nat.zero_add, cell_blk hb]
    have h1 : (c.toList.take len)[i]? = (xs.map (Value.int .u8))[i]? := by rw [hc]
    rw [List.getElem?_take, if_pos hi, List.getElem?_map, List.getElem?_eq_getElem (l := xs) (by omega)] at h1
    rw [← Array.getElem?_toList, h1]
    simp [List.getD, List.getElem?_eq_getElem (show i < xs.length by omega)]) t ht
  simp [execOp, hx, h]
def rowW : Nat → List THit
  | 0 => []
  | i + 1 => putR (rowW i) ⟨strOfNums [97 + (i : Int)], (i : Int) + 1⟩
theorem plc_five {row : List THit} {ps : List TPl} (h : PlcP row ps) (h5 : row.length = 5) : ∃ a b c, ps = [⟨1, false, a⟩, ⟨2, true, b⟩, ⟨2, true, c⟩] ∧ a.length = 1 ∧ b.length = 2 ∧ c.length = 2 := by
  rcases h with ⟨rfl, _⟩ | ⟨d, t, ho, rfl, rfl⟩
  · cases h5
  · obtain ⟨h, ks, ts⟩ := t
    cases d with
    | zero => obtain ⟨o1, o2, _⟩ := ok_mk.1 ho; have h5 : ks.length = 5 := h5; omega
    | succ d =>
      obtain ⟨o1, o2, o3, o4⟩ := ok_mk.1 ho
      have hw := weave_len (cs := ts.map (flatB d)) (ks := ks) (m := leastM d) (by simpa using o3) fun c hc => by
        obtain ⟨s, hs, rfl⟩ := List.mem_map.1 hc
        exact flat_least (o4 s hs)
      have h5 : (weave (ts.map (flatB d)) ks).length = 5 := h5
      rw [List.length_map, o3, h5] at hw
      have hm : 2 ≤ leastM d := by
        cases d with
        | zero => exact Nat.le_refl _
        | succ d => rw [leastM]; omega
      have hk : ks.length = 1 := by
        have : (ks.length + 1) * 2 ≤ (ks.length + 1) * leastM d := Nat.mul_le_mul_left _ hm
        omega
      rw [hk] at hw o3
      cases d with
      | succ d =>
        have : 8 ≤ leastM (d + 1) := by
          have : 2 ≤ leastM d := by
            cases d with
            | zero => exact Nat.le_refl _
            | succ d => rw [leastM]; omega
          rw [leastM]; omega
        omega
      | zero =>
        match ts, o3 with
        | [x, y], _ =>
          match ks, hk with
          | [z], _ =>
            obtain ⟨hx, kx, tx⟩ := x
            obtain ⟨hy, ky, ty⟩ := y
            have ox := ok_mk.1 (o4 _ (List.mem_cons_self ..))
            have oy := ok_mk.1 (o4 _ (List.mem_cons_of_mem _ (List.mem_cons_self ..)))
            simp [flatB, BT.ks, weave] at h5
            refine ⟨_, _, _, rfl, rfl, ?_, ?_⟩ <;> simp [BT.ks] <;> omega
end Tp
namespace Tp
def row5 : List THit := [⟨⟨#[97]⟩, 1⟩, ⟨⟨#[98]⟩, 2⟩, ⟨⟨#[99]⟩, 3⟩, ⟨⟨#[100]⟩, 4⟩, ⟨⟨#[101]⟩, 5⟩]
theorem rowW_5 : rowW 5 = row5 := by decide +kernel
end Tp
namespace Tp
theorem weave_sum : ∀ {cs : List (List THit)} {ks : List THit}, cs.length = ks.length + 1 → (weave cs ks).length = ks.length + (cs.map List.length).sum
  | [], _, h => by simp at h
  | [c], [], _ => by simp [weave]
  | c :: d :: cs, [], h => by simp at h
  | c :: cs, k :: ks, h => by
    have := weave_sum (cs := cs) (ks := ks) (by simpa using h)
    simp only [weave, List.length_append, List.length_cons, this, List.map_cons, List.sum_cons]; omega
theorem places_le : ∀ {d lo : Nat} {t : BT} {q : Int}, okB lo d t → 1 ≤ lo → (placesB d t q).length ≤ (flatB d t).length := by
  intro d
  induction d with
  | zero => intro lo t q ho hl; obtain ⟨h, ks, ts⟩ := t; have := (ok_mk.1 ho).1; simp only [placesB, flatB, BT.ks, List.length_singleton]; omega
  | succ d ih =>
    intro lo t q ho hl
    obtain ⟨h, ks, ts⟩ := t
    obtain ⟨o1, o2, o3, o4⟩ := ok_mk.1 ho
    have hw := weave_sum (cs := ts.map (flatB d)) (ks := ks) (by simpa using o3)
    have hs : ∀ (ts : List BT), (∀ c, c ∈ ts → okB 2 d c) → (ts.flatMap fun c => placesB d c (q + 1)).length ≤ ((ts.map (flatB d)).map List.length).sum := by
      intro ts
      induction ts with
      | nil => intro _; simp
      | cons c ts iht =>
        intro hc
        have h1 := ih (q := q + 1) (hc c (by simp)) (by omega)
        have h2 := iht fun c' hc' => hc c' (by simp [hc'])
        simp only [List.flatMap_cons, List.length_append, List.map_cons, List.sum_cons]; omega
    have := hs ts o4
    show (_ :: ts.flatMap fun c => placesB d c (q + 1)).length ≤ (weave (ts.map (flatB d)) ks).length
    rw [hw, List.length_cons]; omega
theorem plc_le {row : List THit} {ps : List TPl} (h : PlcP row ps) : ps.length ≤ row.length := by
  rcases h with ⟨rfl, rfl⟩ | ⟨d, t, ho, rfl, rfl⟩
  · exact Nat.le_refl _
  · exact places_le ho (by omega)
theorem plc_nil {ps : List TPl} (h : PlcP [] ps) : ps.length = 0 := by have := plc_le h; simpa using this
theorem plc_four {row : List THit} {ps : List TPl} {D : Nat} (h : PlcOk row ps D) : ∀ p, p ∈ ps → p.keys.length ≤ 4 := fun p hp => by
  obtain ⟨i, hi⟩ := List.getElem?_of_mem hp
  exact (h.keys i p hi).2.1
def rowE (l : List ByteArray) : Nat → List THit
  | 0 => []
  | i + 1 => match l[i]? with | some k => putR (rowE l i) ⟨k, i⟩ | none => rowE l i
section
variable {l : List ByteArray} {i n k : Nat} {x : ByteArray} {row : List THit}
theorem rowE_succ (hx : l[i]? = some x) : rowE l (i + 1) = putR (rowE l i) ⟨x, (i : Int)⟩ := by
  show (match l[i]? with | some k => putR (rowE l i) ⟨k, i⟩ | none => rowE l i) = _
  rw [hx]
theorem putR_mem {x a : THit} (h : a ∈ putR row x) : a = x ∨ a ∈ row := by
  unfold putR at h
  rcases List.mem_append.1 h with h | h
  · exact .inr (List.mem_filter.1 ((List.takeWhile_prefix (p := fun a : THit => sLt a.key x.key) (l := delL row x.key)).subset h)).1
  · rcases List.mem_cons.1 h with h | h
    · exact .inl h
    · exact .inr (List.mem_filter.1 (List.mem_filter.1 h).1).1
theorem rowE_mem : ∀ {i : Nat} {a : THit}, a ∈ rowE l i → a.key ∈ l := by
  intro i
  induction i with
  | zero => intro a h; cases h
  | succ i ih =>
    intro a h
    cases hx : l[i]? with
    | none =>
      have : rowE l (i + 1) = rowE l i := by show (match l[i]? with | some k => putR (rowE l i) ⟨k, i⟩ | none => rowE l i) = _; rw [hx]
      rw [this] at h; exact ih h
    | some x =>
      rw [rowE_succ hx] at h
      rcases putR_mem h with rfl | h
      · exact List.mem_of_getElem? hx
      · exact ih h
def emI (n k i : Nat) : Nat := if n % 7 = 0 then (i + k) % n else (i * 7 + k) % n
theorem emI_all (hk : k < n) {m : Nat} (hm : m < n) : ∃ j, j < n ∧ emI n k j = m := by
  have h0 : 0 < n := by omega
  unfold emI
  by_cases h7 : n % 7 = 0
  · refine ⟨(m + n - k) % n, Nat.mod_lt _ h0, ?_⟩
    rw [if_pos h7, Nat.mod_add_mod, show m + n - k + k = m + n by omega, Nat.add_mod_right, Nat.mod_eq_of_lt hm]
  · obtain ⟨s, t, hst⟩ : ∃ s t : Nat, 7 * t = n * s + 1 := by
      have : n % 7 = 1 ∨ n % 7 = 2 ∨ n % 7 = 3 ∨ n % 7 = 4 ∨ n % 7 = 5 ∨ n % 7 = 6 := by omega
      rcases this with h | h | h | h | h | h
      · exact ⟨6, (n * 6 + 1) / 7, by omega⟩
      · exact ⟨3, (n * 3 + 1) / 7, by omega⟩
      · exact ⟨2, (n * 2 + 1) / 7, by omega⟩
      · exact ⟨5, (n * 5 + 1) / 7, by omega⟩
      · exact ⟨4, (n * 4 + 1) / 7, by omega⟩
      · exact ⟨1, (n * 1 + 1) / 7, by omega⟩
    have key : ∀ u, (((t * u) % n) * 7 + k) % n = (u + k) % n := fun u => by
      rw [Nat.add_mod, Nat.mod_mul_mod, show t * u * 7 = (7 * t) * u by rw [Nat.mul_comm, ← Nat.mul_assoc], hst, Nat.add_mul, Nat.one_mul, Nat.mul_assoc, ← Nat.add_mod]
      rw [show n * (s * u) + u + k = u + k + n * (s * u) by omega, Nat.add_mul_mod_self_left]
    refine ⟨(t * (m + n - k)) % n, Nat.mod_lt _ h0, ?_⟩
    rw [if_neg h7, key, show m + n - k + k = m + n by omega, Nat.add_mod_right, Nat.mod_eq_of_lt hm]
def emOk (l : List ByteArray) (k i : Nat) (row : List THit) : Prop := ∀ a, a ∈ row → a.key ∈ l ∧ ∀ j, j < i → l[emI l.length k j]? ≠ some a.key
theorem emOk_zero : emOk l k 0 (rowE l n) := fun a ha => ⟨rowE_mem ha, fun j hj => by omega⟩
theorem emOk_step (h : emOk l k i row) (hx : l[emI l.length k i]? = some x) : emOk l k (i + 1) (delL row x) := fun a ha => by
  obtain ⟨h1, h2⟩ := List.mem_filter.1 ha
  refine ⟨(h a h1).1, fun j hj => ?_⟩
  rcases Nat.lt_or_ge j i with hji | hji
  · exact (h a h1).2 j hji
  · have : j = i := by omega
    subst this
    rw [hx]
    simp at h2
    exact fun e => h2 (Option.some.inj e).symm
theorem emOk_all (h : emOk l k i row) (hi : l.length ≤ i) (hk : 0 < l.length → k < l.length) : row = [] := by
  cases row with
  | nil => rfl
  | cons a r =>
    exfalso
    obtain ⟨h1, h2⟩ := h a (by simp)
    obtain ⟨m, hm⟩ := List.getElem?_of_mem h1
    have hl := (List.getElem?_eq_some_iff.1 hm).1
    obtain ⟨j, hj, hjm⟩ := emI_all (hk (by omega)) hl
    exact h2 j (by omega) (by rw [hjm]; exact hm)
theorem emI_seven (h : n % 7 = 0) : emI n k i = (i + k) % n := if_pos h
theorem emI_not (h : ¬ n % 7 = 0) : emI n k i = (i * 7 + k) % n := if_neg h
theorem pick_nat0 (by_ : Int) (n : Nat) : ∃ k : Nat, pickI by_ n = k ∧ (0 < n → k < n) := by
  unfold pickI
  by_cases h : (n : Int) ≤ 0
  · exact ⟨0, by rw [if_pos h]; rfl, fun hn => by omega⟩
  · rw [if_neg h]
    have h1 := tmod_bounds (a := by_) (b := n) (by omega)
    rw [Int.tmod_eq_emod_of_nonneg (by omega)]
    have h2 := Int.emod_nonneg (by_.tmod n + n) (b := n) (by omega)
    have h3 := Int.emod_lt_of_pos (by_.tmod n + n) (b := n) (by omega)
    exact ⟨((by_.tmod n + n) % n).toNat, by omega, fun _ => by omega⟩
theorem tmod_nat (a n : Nat) : ((a : Int)).tmod n = ((a % n : Nat) : Int) := (Int.ofNat_tmod a n).symm
end
end Tp
set_option maxRecDepth 100000
namespace Go.Proofs
open Go Tp
theorem Tryz.un9 : Und Tryz.prog 9 (.string) := by unfold Und; kernel_rfl
theorem Tryz.un22 : Und Tryz.prog 22 (.slice 26) := by unfold Und; kernel_rfl
theorem Tryz.el26 : Elem Tryz.prog 26 (Value.agg #[(vI 0), (vS sZ), (vI 0)]) 3 32 := Elem.mk (by kernel_rfl)
theorem Tryz.en39 : Enters Tryz.prog 39 := fun _ _ => by kernel_rfl
abbrev oL (v : Value) (xs : List PlC) : Chunk := own 78 3 v xs.length (xs.flatMap plcE)
theorem kit_pick {G : Nat → Prop} {w : World} (i : Int) (n : Int)  (hn : n ≤ 1000000000) (M : Mem G (fun _ => False) w [] [] w) : Rets Tryz.prog 24 #[(vI i), (vI n)] w fun r w' => r = (vI (pickI i n)) ∧ Mem G (fun _ => False) w [] [] w' := by
 refine Rets.enter 14 _ Tryz.func24 rfl Tryz.ntmps24 Tryz.results24 (by simp) ?_
 refine wR (wA (vI 0) (WL.nil (W.seq' (wR (wM (vI n) ?_)))))
 refine wP (vB (decide ((n : Int) ≤ (0 : Int)))) (WL.nil ?_)
 refine W.cond (t := decide ((n : Int) ≤ (0 : Int))) rfl (fun h1 => ?_) (fun h1 => ?_)
 ·
  have h1p := of_decide_eq_true h1
  refine wR (wA (vI 0) (WL.nil ?_))
  refine W.ret ?_
  refine ⟨.inl rfl, (vI 0), ?_, ?_⟩
  · exact ⟨rfl, (Res.r1 (show RV _ _ _ (.tmp 4) (vI 0) from by exact rfl))⟩
  refine ⟨?_, M.close [] rfl (by decide) trivial⟩
  refine congrArg (Value.int .i64) ?_
  unfold pickI
  first | rw [if_pos (by omega)] | rw [if_neg (by omega)]
 ·
  have h1p := of_decide_eq_false h1
  have htb := fun h0 => tmod_bounds (a := i) (b := n) h0
  refine W.skip (wR (wM (vI i) (wM (vI n) (wS (vI (i.tmod n)) rfl (Step.rem rfl rfl (by omega)) (wM (vI n) ?_)))))
  refine wS (vI (i.tmod n + n)) rfl (Step.add rfl rfl (wrap_i64 (by omega))) (wM (vI n) (wS (vI ((i.tmod n + n).tmod n)) rfl (Step.rem rfl rfl (by omega)) (wA (vI ((i.tmod n + n).tmod n)) (WL.nil ?_))))
  refine W.ret ?_
  refine ⟨.inl rfl, (vI ((i.tmod n + n).tmod n)), ?_, ?_⟩
  · exact ⟨rfl, (Res.r1 (show RV _ _ _ (.tmp 4) (vI ((i.tmod n + n).tmod n)) from by exact rfl))⟩
  refine ⟨?_, M.close [] rfl (by decide) trivial⟩
  refine congrArg (Value.int .i64) ?_
  unfold pickI
  first | rw [if_pos (by omega)] | rw [if_neg (by omega)]
theorem l_few {G : Nat → Prop} {w : World} (v : Value) (l : List TAct) (most : Int)   (M : Mem G (fun _ => False) w [] [SlAt 3 v l.length (l.flatMap actE)] w) : Rets Tryz.prog 9 #[v, (vI most)] w fun r w' => r = (vB (fewT l most)) ∧ Mem G (fun _ => False) w [] [] w' := by
 refine Rets.enter 23 _ Tryz.func9 rfl Tryz.ntmps9 Tryz.results9 (by simp) ?_
 have hle1 := SlAt.le' (M.rep 0 rfl)
 have sl2 : IsSl v := SlAt.isSl (Mem.rep M 0 rfl)
 refine wR (wA (vB false) (WL.nil (W.seq' (wR (wA (vI 0) ?_)))))
 refine WL.nil (W.block ?_)
 refine W.loop (fun kk ρ w' => ∃ (i_ : Nat), ((i_ ≤ l.length) ∧ (∀ j u, j < i_ → l[j]? = some u → (fun u : TAct => decide ((u.k.size : Int) > 60)) u = false) ∧ kk = l.length - i_) ∧ ρ.has [(0, v), (1, (vI most)), (5, (vI ↑i_))] ∧ Mem G (fun _ => False) w [] [SlAt 3 v l.length (l.flatMap actE)]  w') _ ⟨0, ⟨(Nat.zero_le _), (fun _ _ h => absurd h (Nat.not_lt_zero _)), rfl⟩, ⟨rfl, rfl, rfl, rfl, rfl⟩, M⟩ ?_
 rintro _ ρ4 w3 ⟨i_, ⟨hi5, hi6, rfl⟩, hρ, M⟩
 obtain ⟨ρ4, rfl⟩ := hρ.know
 clear hρ
 refine W.seq' (wR (wM (vI ↑i_) (wM v (wS (vI ↑l.length) rfl (Step.lenSl Tryz.un22 rfl (M.rep 0 rfl)) (wP (vB (decide ((↑i_ : Int) < (↑l.length : Int)))) ?_)))))
 refine WL.nil ?_
 refine W.cond (t := decide ((↑i_ : Int) < (↑l.length : Int))) rfl (fun h7 => ?_) (fun h7 => ?_)
 ·
  have h7p := of_decide_eq_true h7
  refine W.skip (W.seq' (W.block (wR (wM v (wM (vI ↑i_) ?_)))))
  obtain ⟨cap9, hb8⟩ := SlAt.base (M.rep 0 rfl) (by omega)
  obtain ⟨x10, hx10⟩ := elem_of_lt (xs := l) (i := i_) (by omega)
  refine wS (vQ v i_ 3) rfl (sX i_ Tryz.un22 Tryz.el26 rfl rfl hb8) (wP (vR v i_ 3 1) (wS (vS x10.k) rfl (Step.loadE (k := 1) Tryz.sc9 (flat_ec (M.rep 0 rfl) hx10 actE_len) (by decide) rfl rfl) (wS (vI ↑x10.k.size) rfl (Step.lenStr Tryz.un9 rfl) (wP (vB (decide ((↑x10.k.size : Int) > (60 : Int)))) (WL.nil ?_)))))
  refine W.cond (t := decide ((↑x10.k.size : Int) > (60 : Int))) rfl (fun h11 => ?_) (fun h11 => ?_)
  ·
   have h11p := of_decide_eq_true h11
   refine wR (wA (vB false) (WL.nil ?_))
   refine W.ret ?_
   refine ⟨.inl rfl, (vB false), ?_, ?_⟩
   · exact ⟨rfl, (Res.r1 (show RV _ _ _ (.tmp 4) (vB false) from by exact rfl))⟩
   refine ⟨?_, M.close [] rfl (by decide) trivial⟩
   refine congrArg Value.bool ?_
   rw [few_bad hx10 h11p]
  ·
   have h11p := of_decide_eq_false h11
   refine W.skip (W.region rfl (wM (vI ↑i_) (wS (vI (↑i_ + 1)) rfl (Step.add rfl rfl (wrap_i64 (by omega))) (wA (vI (↑i_ + 1)) (WL.nil ?_)))))
   exact ⟨_, (by omega), i_ + 1, ⟨(by omega), (below_stepG hi6 hx10 h11), rfl⟩, ⟨rfl, rfl, rfl, rfl, rfl⟩, M⟩
 ·
  have h7p := of_decide_eq_false h7
  refine W.exit ?_
  refine thn_exit ?_
  refine thn_exit ?_
  refine inBlk_hit ?_
  refine wR (wM v (wS (vI ↑l.length) rfl (Step.lenSl Tryz.un22 rfl (M.rep 0 rfl)) (wM (vI most) (wP (vB (decide ((↑l.length : Int) ≤ (most : Int)))) (wA (vB (decide ((↑l.length : Int) ≤ (most : Int)))) ?_)))))
  refine WL.nil ?_
  refine W.ret ?_
  refine ⟨.inl rfl, (vB (decide ((↑l.length : Int) ≤ (most : Int)))), ?_, ?_⟩
  · exact ⟨rfl, (Res.r1 (show RV _ _ _ (.tmp 4) (vB (decide ((↑l.length : Int) ≤ (most : Int)))) from by exact rfl))⟩
  refine ⟨?_, M.close [] rfl (by decide) trivial⟩
  refine congrArg Value.bool ?_
  rw [few_good hi6 (by omega)]
theorem l_hit1 {G : Nat → Prop} {w : World} (a : THit) (ok : Bool)   (M : Mem G (fun _ => False) w [] [] w) : Rets Tryz.prog 39 #[(Value.agg #[(vS a.key), (vI a.val)]), (vB ok), (Value.agg #[(vS a.key), (vI a.val)]), (vB ok)] w fun r w' => r = (vB true) ∧ Mem G (fun _ => False) w [] [] w' := by
 refine Rets.enter 26 _ Tryz.func39 rfl Tryz.ntmps39 Tryz.results39 (by simp) ?_
 refine wR ?_
 refine WL.box (v := (Value.agg #[(vS a.key), (vI a.val)])) (c := #[(vS a.key), (vI a.val)]) M rfl rfl rfl (fun b1 w2 hb1 M => ?_)
 refine WL.box (v := (Value.agg #[(vS a.key), (vI a.val)])) (c := #[(vS a.key), (vI a.val)]) M rfl rfl rfl (fun b3 w4 hb3 M => ?_)
 refine wA (vB false) (WL.nil (wR (wM (vB ok) (wM (vB ok) (wS (vB true) rfl (Step.cast (congrArg Value.bool (by simp)) (Step.pure (v := .bool ((ok == ok))) (by kernel_rfl))) ?_)))))
 refine wM (vB true) (wP (vP b1) (wS (vS a.key) rfl (Step.load1 Tryz.sc9 rfl ((M.cell 1 rfl 0).trans rfl)) (wP (vP b3) (wS (vS a.key) rfl (Step.load1 Tryz.sc9 rfl ((M.cell 0 rfl 0).trans rfl)) (wS (vB true) rfl (Step.cast (congrArg Value.bool (show (a.key.toList == a.key.toList) = true by simp)) sP) ?_)))))
 refine wS (vB true) rfl (Step.pick (t := true) rfl rfl) (wM (vB true) (wP (Value.pointer (some ⟨b1, 1, none⟩)) (wS (vI a.val) rfl (Step.load1 Tryz.sc3 rfl ((M.cell 1 rfl 1).trans rfl)) (wP (Value.pointer (some ⟨b3, 1, none⟩)) (wS (vI a.val) rfl (Step.load1 Tryz.sc3 rfl ((M.cell 0 rfl 1).trans rfl)) ?_)))))
 refine wS (vB true) rfl (Step.cast (congrArg Value.bool (show ((a.val : Int) == (a.val : Int)) = true by simp)) sP) (wS (vB true) rfl (Step.pick (t := true) rfl rfl) (wA (vB true) (WL.nil ?_)))
 refine W.ret ?_
 refine ⟨.inl rfl, (vB true), ?_, ?_⟩
 · exact ⟨rfl, (Res.r1 (show RV _ _ _ (.tmp 8) (vB true) from by exact rfl))⟩
 refine ⟨?_, M.close [] rfl (by decide) trivial⟩
 rfl
theorem l_hit2 {G : Nat → Prop} {w : World} (a : THit) (ok : Bool) (b : THit) (is_ : Bool)   (M : Mem G (fun _ => False) w [] [] w) : Rets Tryz.prog 39 #[(Value.agg #[(vS a.key), (vI a.val)]), (vB ok), (Value.agg #[(vS b.key), (vI b.val)]), (vB is_)] w fun r w' => r = (vB ((ok == is_) && decide (a = b))) ∧ Mem G (fun _ => False) w [] [] w' := by
 refine Rets.enter 26 _ Tryz.func39 rfl Tryz.ntmps39 Tryz.results39 (by simp) ?_
 refine wR ?_
 refine WL.box (v := (Value.agg #[(vS a.key), (vI a.val)])) (c := #[(vS a.key), (vI a.val)]) M rfl rfl rfl (fun b1 w2 hb1 M => ?_)
 refine WL.box (v := (Value.agg #[(vS b.key), (vI b.val)])) (c := #[(vS b.key), (vI b.val)]) M rfl rfl rfl (fun b3 w4 hb3 M => ?_)
 refine wA (vB false) (WL.nil (wR (wM (vB ok) (wM (vB is_) (wP (vB (ok == is_)) ?_)))))
 refine wM (vB (ok == is_)) ?_
 rcases Bool.eq_false_or_eq_true (ok == is_) with h5 | h5
 ·
  rw [h5]
  refine wP (vP b1) (wS (vS a.key) rfl (Step.load1 Tryz.sc9 rfl ((M.cell 1 rfl 0).trans rfl)) (wP (vP b3) (wS (vS b.key) rfl (Step.load1 Tryz.sc9 rfl ((M.cell 0 rfl 0).trans rfl)) (wP (vB (a.key.toList == b.key.toList)) (wS (vB (a.key.toList == b.key.toList)) rfl (Step.pick (t := true) rfl rfl) ?_)))))
  refine wM (vB (a.key.toList == b.key.toList)) ?_
  rcases Bool.eq_false_or_eq_true (a.key.toList == b.key.toList) with h6 | h6
  ·
   rw [h6]
   refine wP (Value.pointer (some ⟨b1, 1, none⟩)) (wS (vI a.val) rfl (Step.load1 Tryz.sc3 rfl ((M.cell 1 rfl 1).trans rfl)) (wP (Value.pointer (some ⟨b3, 1, none⟩)) (wS (vI b.val) rfl (Step.load1 Tryz.sc3 rfl ((M.cell 0 rfl 1).trans rfl)) (wP (vB ((a.val : Int) == (b.val : Int))) (wS (vB ((a.val : Int) == (b.val : Int))) rfl (Step.pick (t := true) rfl rfl) ?_)))))
   refine wA (vB ((a.val : Int) == (b.val : Int))) (WL.nil ?_)
   refine W.ret ?_
   refine ⟨.inl rfl, (vB ((a.val : Int) == (b.val : Int))), ?_, ?_⟩
   · exact ⟨rfl, (Res.r1 (show RV _ _ _ (.tmp 8) (vB ((a.val : Int) == (b.val : Int))) from by exact rfl))⟩
   refine ⟨?_, M.close [] rfl (by decide) trivial⟩
   refine congrArg Value.bool ?_
   try simp only [sEq_dec] at *
   cases a; cases b; simp_all <;> (try (rw [Bool.eq_iff_iff]; simp))
  ·
   rw [h6]
   refine WL.pass rfl ?_
   refine WL.pass rfl ?_
   refine WL.pass rfl ?_
   refine WL.pass rfl ?_
   refine WL.pass rfl ?_
   refine wS (vB false) rfl (Step.pick (t := false) rfl rfl) (wA (vB false) (WL.nil ?_))
   refine W.ret ?_
   refine ⟨.inl rfl, (vB false), ?_, ?_⟩
   · exact ⟨rfl, (Res.r1 (show RV _ _ _ (.tmp 8) (vB false) from by exact rfl))⟩
   refine ⟨?_, M.close [] rfl (by decide) trivial⟩
   refine congrArg Value.bool ?_
   try simp only [sEq_dec] at *
   cases a; cases b; simp_all <;> (try (rw [Bool.eq_iff_iff]; simp))
 ·
  rw [h5]
  refine WL.pass rfl ?_
  refine WL.pass rfl ?_
  refine WL.pass rfl ?_
  refine WL.pass rfl ?_
  refine WL.pass rfl ?_
  refine wS (vB false) rfl (Step.pick (t := false) rfl rfl) (wM (vB false) ?_)
  refine WL.pass rfl ?_
  refine WL.pass rfl ?_
  refine WL.pass rfl ?_
  refine WL.pass rfl ?_
  refine WL.pass rfl ?_
  refine wS (vB false) rfl (Step.pick (t := false) rfl rfl) (wA (vB false) (WL.nil ?_))
  refine W.ret ?_
  refine ⟨.inl rfl, (vB false), ?_, ?_⟩
  · exact ⟨rfl, (Res.r1 (show RV _ _ _ (.tmp 8) (vB false) from by exact rfl))⟩
  refine ⟨?_, M.close [] rfl (by decide) trivial⟩
  refine congrArg Value.bool ?_
  try simp only [sEq_dec] at *
  cases a; cases b; simp_all <;> (try (rw [Bool.eq_iff_iff]; simp))
theorem l_same {G : Nat → Prop} {w : World} (v : Value) (xs : List THit) (u : Value)   (M : Mem G (fun _ => False) w [] [fR v xs, fR u xs] w) : Rets Tryz.prog 17 #[v, u] w fun r w' => r = (vB true) ∧ Mem G (fun _ => False) w [] [] w' := by
 refine Rets.enter 27 _ Tryz.func17 rfl Tryz.ntmps17 Tryz.results17 (by simp) ?_
 have hle1 := SlAt.le' (M.rep 0 rfl)
 have hle2 := SlAt.le' (M.rep 1 rfl)
 have sl3 : IsSl v := SlAt.isSl (Mem.rep M 0 rfl)
 have sl4 : IsSl u := SlAt.isSl (Mem.rep M 1 rfl)
 refine wR (wA (vB false) (WL.nil (W.seq' (wR (wM v ?_)))))
 refine wS (vI ↑xs.length) rfl (Step.lenSl Tryz.un49 rfl (M.rep 0 rfl)) (wM u (wS (vI ↑xs.length) rfl (Step.lenSl Tryz.un35 rfl (M.rep 1 rfl)) (wS (vB false) rfl (Step.cast (congrArg Value.bool (show ((↑xs.length : Int) != (↑xs.length : Int)) = false by simp)) sP) (WL.nil ?_))))
 refine W.cond (t := false) rfl (fun h => by cases h) (fun _ => ?_)
 refine W.skip (W.seq' (wR (wA (vI 0) (WL.nil (W.block ?_)))))
 refine W.loop (fun kk ρ w' => ∃ (i_ : Nat), ((i_ ≤ xs.length) ∧ kk = xs.length - i_) ∧ ρ.has [(0, v), (1, u), (5, (vI ↑i_))] ∧ Mem G (fun _ => False) w [] [fR v xs, fR u xs]  w') _ ⟨0, ⟨(Nat.zero_le _), rfl⟩, ⟨rfl, rfl, rfl, rfl, rfl⟩, M⟩ ?_
 rintro _ ρ6 w5 ⟨i_, ⟨hi7, rfl⟩, hρ, M⟩
 obtain ⟨ρ6, rfl⟩ := hρ.know
 clear hρ
 refine W.seq' (wR (wM (vI ↑i_) (wM v (wS (vI ↑xs.length) rfl (Step.lenSl Tryz.un49 rfl (M.rep 0 rfl)) (wP (vB (decide ((↑i_ : Int) < (↑xs.length : Int)))) ?_)))))
 refine WL.nil ?_
 refine W.cond (t := decide ((↑i_ : Int) < (↑xs.length : Int))) rfl (fun h8 => ?_) (fun h8 => ?_)
 ·
  have h8p := of_decide_eq_true h8
  refine W.skip (W.seq' (W.block (W.seq' ?_)))
  obtain ⟨cap10, hb9⟩ := SlAt.base (M.rep 0 rfl) (by omega)
  obtain ⟨x11, hx11⟩ := elem_of_lt (xs := xs) (i := i_) (by omega)
  obtain ⟨cap13, hb12⟩ := SlAt.base (M.rep 1 rfl) (by omega)
  refine W.drawn M [0, 1, 2, 3, 4, 5, 6, 7, 8, 9] [8] [] _ _ sE (fun _ h => h) Tryz.mixed (by kernel_rfl) ?_
  refine tP v rfl (fun w => (Step.move rfl)) ?_
  refine tP (vI ↑i_) rfl (fun w => (Step.move rfl)) ?_
  refine tP (vQ v i_ 2) rfl (fun w => (sX i_ Tryz.un49 Tryz.el55 rfl rfl hb9)) ?_
  refine tR (Value.agg #[(vS x11.key), (vI x11.val)]) rfl (fun A w M => (Step.loadEN (k := 0) (cs' := [(vS x11.key), (vI x11.val)]) Tryz.ag55 (flat_ec (M.rep 0 rfl) hx11 hitE_len) (by decide) rfl rfl rfl)) ?_
  refine tP u rfl (fun w => (Step.move rfl)) ?_
  refine tP (vI ↑i_) rfl (fun w => (Step.move rfl)) ?_
  refine tP (vQ u i_ 2) rfl (fun w => (sX i_ Tryz.un35 Tryz.el81 rfl rfl hb12)) ?_
  refine tR (Value.agg #[(vS x11.key), (vI x11.val)]) rfl (fun A w M => (Step.loadEN (k := 0) (cs' := [(vS x11.key), (vI x11.val)]) Tryz.ag81 (flat_ec (M.rep 1 rfl) hx11 hitE_len) (by decide) rfl rfl rfl)) ?_
  refine TW.callX (ι := Unit) (fun jx v_ => v_ = (vB true)) (fun jx => []) (fun jx => [fR v xs, fR u xs]) rfl (by decide) rfl (fun jx => sE) (fun jx r h => h) (fun A w M => Rets.mono (l_hit1 x11 true (M.enterW0 trivial)) (fun v_ w_ ⟨e_, m⟩ => ⟨(), e_, (M.leaveW0 m).sel [0] rfl (by decide), fun b hb => M.k0F m b hb⟩)) (fun w => CallsF.func Tryz.en39 rfl) (fun jx v hp hin => ?_)
  replace hp := hp.symm; subst hp
  clear hin
  refine tP (vB false) rfl (fun w => sP) ?_
  refine TW.done (fun w14 M => ?_)
  refine W.cond (t := false) rfl (fun h => by cases h) (fun _ => ?_)
  refine W.skip (W.region rfl (wM (vI ↑i_) (wS (vI (↑i_ + 1)) rfl (Step.add rfl rfl (wrap_i64 (by omega))) (wA (vI (↑i_ + 1)) (WL.nil ?_)))))
  exact ⟨_, (by omega), i_ + 1, ⟨(by omega), rfl⟩, ⟨rfl, rfl, rfl, rfl, rfl⟩, M⟩
 ·
  have h8p := of_decide_eq_false h8
  refine W.exit ?_
  refine thn_exit ?_
  refine thn_exit ?_
  refine inBlk_hit ?_
  refine wR (wA (vB true) (WL.nil ?_))
  refine W.ret ?_
  refine ⟨.inl rfl, (vB true), ?_, ?_⟩
  · exact ⟨rfl, (Res.r1 (show RV _ _ _ (.tmp 4) (vB true) from by exact rfl))⟩
  refine ⟨?_, M.close [] rfl (by decide) trivial⟩
  rfl
theorem l_keys {G : Nat → Prop} {w : World} (v : Value) (l : List THit)  (hb : l.length ≤ 400000) (M : Mem G (fun _ => False) w [] [fR v l] w) : Rets Tryz.prog 16 #[v] w fun r w' => ∃ (v' : Value), r = v' ∧ Mem G (fun _ => False) w [] [fS v' (l.map THit.key)] w' := by
 refine Rets.enter 20 _ Tryz.func16 rfl Tryz.ntmps16 Tryz.results16 (by simp) ?_
 have hle1 := SlAt.le' (M.rep 0 rfl)
 have sl2 : IsSl v := SlAt.isSl (Mem.rep M 0 rfl)
 refine wR (wA vZ (WL.nil (wR (wA vZ (WL.nil ?_)))))
 refine W.seq' (wR (wA (vI 0) (WL.nil (W.block ?_))))
 replace M := M.ownNil 9 1
 replace M := M.rechunk 0 (c' := oS vZ ((l.take 0).map THit.key)) rfl rfl
 refine W.loop (fun kk ρ w' => ∃ (i_ : Nat) (acci_ : Value), ((i_ ≤ l.length) ∧ kk = l.length - i_) ∧ ρ.has [(0, v), (2, vZ), (3, acci_), (4, (vI ↑i_))] ∧ Mem G (fun _ => False) w [oS acci_ ((l.take i_).map THit.key)] [fR v l]  w') _ ⟨0, _, ⟨(Nat.zero_le _), rfl⟩, ⟨rfl, rfl, rfl, rfl, rfl, rfl⟩, M⟩ ?_
 rintro _ ρ4 w3 ⟨i_, acci_, ⟨hi5, rfl⟩, hρ, M⟩
 obtain ⟨ρ4, rfl⟩ := hρ.know
 clear hρ
 have sl6 : IsSl acci_ := SlAt.isSl (own_slAt (M.chunk 0 rfl).inv)
 have hacl : ((l.take i_).map THit.key).length ≤ 400000 := by rw [List.length_map, List.length_take]; omega
 refine W.seq' (wR (wM (vI ↑i_) (wM v (wS (vI ↑l.length) rfl (Step.lenSl Tryz.un35 rfl (M.rep 0 rfl)) (wP (vB (decide ((↑i_ : Int) < (↑l.length : Int)))) ?_)))))
 refine WL.nil ?_
 refine W.cond (t := decide ((↑i_ : Int) < (↑l.length : Int))) rfl (fun h7 => ?_) (fun h7 => ?_)
 ·
  have h7p := of_decide_eq_true h7
  refine W.skip (W.seq' (W.block (W.region rfl (wM acci_ (wM v ?_)))))
  refine wM (vI ↑i_) ?_
  obtain ⟨cap9, hb8⟩ := SlAt.base (M.rep 0 rfl) (by omega)
  obtain ⟨x10, hx10⟩ := elem_of_lt (xs := l) (i := i_) (by omega)
  refine wS (vQ v i_ 2) rfl (sX i_ Tryz.un35 Tryz.el81 rfl rfl hb8) (wP (vQ v i_ 2) (wS (vS x10.key) rfl (Step.loadE (k := 0) Tryz.sc9 (flat_ec (M.rep 0 rfl) hx10 hitE_len) (by decide) rfl rfl) ?_))
  refine WL.new (obj := .cells #[(vS x10.key)] 9) (fun b => .slice (some ⟨b, 0, none⟩) 1 1) M rfl (fun w => Step.make (by kernel_rfl)) (fun b11 w12 hb11 M => ?_)
  refine WL.does rfl (M.appendF ((l.take i_).map THit.key) ([x10.key] : List ByteArray) (sv := (Value.slice (some ⟨b11, 0, none⟩) 1 1)) 1 Tryz.un23 Tryz.el9 rfl (by decide) rfl rfl rfl (SlAt.of_blk (M.blk 0 rfl) rfl (by decide)) strE_cel (by have := hacl; simp only [maxLen, List.length_nil, List.length_cons, List.length_append]; omega) (by have := hacl; (try simp only [List.length_nil, List.length_cons, List.length_append]); omega)) ?_
  rintro v13 w14 M
  have sl15 : IsSl v13 := SlAt.isSl (own_slAt (M.chunk 1 rfl).inv)
  refine wA v13 (WL.nil (W.region rfl (wM (vI ↑i_) (wS (vI (↑i_ + 1)) rfl (Step.add rfl rfl (wrap_i64 (by omega))) (wA (vI (↑i_ + 1)) ?_)))))
  refine WL.nil ?_
  replace M := M.rechunk 1 (c' := oS v13 ((l.take (i_ + 1)).map THit.key)) rfl (by rw [map_snoc hx10])
  replace M := M.sel (L' := [oS v13 ((l.take (i_ + 1)).map THit.key)]) [1] rfl (by decide)
  exact ⟨_, (by omega), i_ + 1, v13, ⟨(by omega), rfl⟩, ⟨rfl, rfl, rfl, rfl, rfl, rfl⟩, M⟩
 ·
  have h7p := of_decide_eq_false h7
  refine W.exit ?_
  refine thn_exit ?_
  refine thn_exit ?_
  refine inBlk_hit ?_
  refine wR (wM acci_ (wA acci_ (WL.nil ?_)))
  refine W.ret ?_
  refine ⟨.inl rfl, acci_, ?_, ?_⟩
  · exact ⟨rfl, (Res.r1 (show RV _ _ _ (.tmp 2) acci_ from by exact rfl))⟩
  replace M := M.shareOwn 0 rfl
  have e16 : l.map THit.key = (l.take i_).map THit.key := by
   rw [List.take_of_length_le (by omega)]
  have hf17 := Sh.reList e16 (M.shr' 0 rfl)
  refine ⟨acci_, ?_, M.close [] rfl (by decide) ⟨hf17, trivial⟩⟩
  rfl
end Go.Proofs
