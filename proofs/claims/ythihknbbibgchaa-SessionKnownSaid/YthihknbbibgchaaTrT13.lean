/- Walks. -/
import Derived.Test.YthihknbbibgchaaTrT12
set_option maxRecDepth 100000
set_option linter.all false
namespace Go.Proofs
open Go Tp
theorem Try.en24 : Enters Try.prog 24 := fun _ _ => by kernel_rfl
theorem Try.en70 : Enters Try.prog 70 := fun _ _ => by kernel_rfl

theorem law17_times {G : Nat → Prop} {w : World} (gap : Int) (lv : Value) (l : List Int) (by_ : Int)   (M : Mem G (fun _ => False) w [] [SlAt 1 lv l.length (l.flatMap intE)] w) : Rets Try.prog 42 #[(Value.int .i64 gap), lv, (Value.int .i64 by_)] w fun r w' => r = (Value.bool true) ∧ Mem G (fun _ => False) w [] [] w' := by
  refine Rets.enter 239 _ Try.func42 rfl Try.ntmps42 Try.results42 (by simp) ?_
  have hle1 := SlAt.le' (M.rep 0 rfl)
  have sl2 : IsSl lv := SlAt.isSl (Mem.rep M 0 rfl)
  have hgp_ := gapT_parts gap
  have hgi_ := gapT_in gap
  refine W.seq' ?_
  refine W.region rfl ?_
  refine WL.step (v := (Value.bool false)) rfl (Step.assign rfl) ?_
  refine WL.nil ?_
  refine W.seq' ?_
  refine W.seq' ?_
  refine W.region rfl ?_
  refine WL.step (v := lv) rfl (Step.move rfl) ?_
  refine WL.step (v := (Value.int .i64 ↑l.length)) rfl (Step.lenSl Try.un70 rfl (M.rep 0 rfl)) ?_
  refine WL.step (v := (Value.bool (decide ((↑l.length : Int) > (24 : Int))))) rfl (Step.pure (by kernel_rfl)) ?_
  refine WL.nil ?_
  refine W.cond (t := decide ((↑l.length : Int) > (24 : Int))) rfl (fun h3 => ?_) (fun h3 => ?_)
  ·
    have h3p := of_decide_eq_true h3
    refine W.seq' ?_
    refine W.region rfl ?_
    refine WL.callX rfl (law17_works  (M.enterW0 trivial)) (CallsF.func Try.en29 rfl) ?_
    rintro _ w4 ⟨rfl, m⟩
    replace M := M.leaveW0 m
    clear m
    replace M : Mem _ _ _ [] [SlAt 1 lv l.length (l.flatMap intE)] _ := M
    refine WL.step (v := (Value.bool true)) rfl (Step.assign rfl) ?_
    refine WL.nil ?_
    refine W.ret ?_
    refine ⟨.inl rfl, (Value.bool true), ?_, ?_⟩
    · exact ⟨rfl, (Res.r1 (show RV _ _ _ (.tmp 6) (Value.bool true) from by exact rfl))⟩
    refine ⟨?_, M.close [] rfl (by decide) trivial⟩
    rfl
  ·
    have h3p := of_decide_eq_false h3
    refine W.skip ?_
    refine W.seq' ?_
    refine W.region rfl ?_
    refine WL.step (v := (Value.int .i64 gap)) rfl (Step.move rfl) ?_
    refine WL.step (v := (Value.int .i64 (gap.tmod 1048576))) rfl (Step.rem rfl rfl (by omega)) ?_
    refine WL.step (v := (Value.int .i64 (gap.tmod 1048576 + 1048576))) rfl (Step.add rfl rfl (wrap_i64 (by omega))) ?_
    refine WL.step (v := (Value.int .i64 ((gap.tmod 1048576 + 1048576).tmod 1048576))) rfl (Step.rem rfl rfl (by omega)) ?_
    refine WL.step (v := (Value.int .i64 (gapT gap))) rfl (Step.cast (congrArg (Value.int .i64) rfl) (Step.add rfl rfl (wrap_i64 (by omega)))) ?_
    refine WL.step (v := (Value.int .i64 (gapT gap))) rfl (Step.assign rfl) ?_
    refine WL.nil ?_
    refine W.seq' ?_
    refine W.region rfl ?_
    refine WL.step (v := lv) rfl (Step.move rfl) ?_
    refine WL.callX rfl (law17_brought lv l (by first | omega | assumption | decide | (simp only [List.length_nil, List.length_cons, List.length_take, List.length_drop]; omega)) (M.enterW0 ⟨(M.wideR0 0 rfl), trivial⟩)) (CallsF.func Try.en70 rfl) ?_
    rintro v5 w6 ⟨_, rfl, m⟩
    replace M := M.leaveW0 m
    clear m
    replace M : Mem _ _ _ [own 2 1 v5 ((l.map timT).length) ((l.map timT).flatMap intE)] [SlAt 1 lv l.length (l.flatMap intE)] _ := M
    have sl7 : IsSl v5 := SlAt.isSl (own_slAt (Mem.chunk M 0 rfl).inv)
    have hle8 := SlAt.le' (own_slAt (Mem.chunk M 0 rfl).inv)
    have hTl_ : (l.map timT).length = l.length := List.length_map _
    have hSin_ := sesT_in (gapT_in gap) (timT_all l)
    have hSl_ := sesT_len (gapT_in gap).1 (l.map timT)
    refine WL.step (v := v5) rfl (Step.assign rfl) ?_
    refine WL.nil ?_
    refine W.seq' ?_
    refine W.region rfl ?_
    refine WL.step (v := (Value.int .i64 (gapT gap))) rfl (Step.move rfl) ?_
    refine WL.step (v := v5) rfl (Step.move rfl) ?_
    refine WL.callX rfl (ses_of (gapT gap) v5 (l.map timT) (by first | omega | assumption | decide | (simp only [List.length_nil, List.length_cons, List.length_take, List.length_drop]; omega)) (show (mayB (gapT gap) (l.map timT)) = true by exact mayB_of (gapT_in gap) (timT_all l)) (M.enterW0 ⟨((M.wideC0 0 rfl).imp fun _ h => own_slAt h), trivial⟩)) (CallsF.func Try.en35 rfl) ?_
    rintro _ w10 ⟨v9, rfl, m⟩
    replace M := M.leaveW0 m
    clear m
    replace M : Mem _ _ _ [own 65 2 v9 ((ofT (gapT gap) (sortT (l.map timT))).length) ((ofT (gapT gap) (sortT (l.map timT))).flatMap spanE), own 2 1 v5 ((l.map timT).length) ((l.map timT).flatMap intE)] [SlAt 1 lv l.length (l.flatMap intE)] _ := M
    have sl11 : IsSl v9 := SlAt.isSl (own_slAt (Mem.chunk M 0 rfl).inv)
    have hle12 := SlAt.le' (own_slAt (Mem.chunk M 0 rfl).inv)
    replace M := M.rechunk 0 (c' := own 65 2 v9 ((sesT (gapT gap) (l.map timT)).length) ((sesT (gapT gap) (l.map timT)).flatMap spanE)) rfl rfl
    replace M : Mem _ _ _ [own 65 2 v9 ((sesT (gapT gap) (l.map timT)).length) ((sesT (gapT gap) (l.map timT)).flatMap spanE), own 2 1 v5 ((l.map timT).length) ((l.map timT).flatMap intE)] [SlAt 1 lv l.length (l.flatMap intE)] _ := M
    refine WL.step (v := (Value.tuple #[v9, (Value.int .i64 0)])) rfl (Step.move rfl) ?_
    refine WL.step (v := v9) rfl (Step.pure (by kernel_rfl)) ?_
    refine WL.step (v := (Value.int .i64 0)) rfl (Step.pure (by kernel_rfl)) ?_
    refine WL.step (v := v9) rfl (Step.assign rfl) ?_
    refine WL.step (v := (Value.int .i64 0)) rfl (Step.assign rfl) ?_
    refine WL.nil ?_
    refine W.seq' ?_
    refine W.seq' ?_
    refine W.region rfl ?_
    refine WL.step (v := (Value.int .i64 0)) rfl (Step.move rfl) ?_
    refine WL.step (v := (Value.bool false)) rfl (Step.pure (by kernel_rfl)) ?_
    refine WL.step (v := (Value.bool false)) rfl (Step.move rfl) ?_
    refine WL.step (v := (Value.int .i64 (gapT gap))) rfl (Step.move rfl) ?_
    refine WL.step (v := v9) rfl (Step.move rfl) ?_
    refine WL.callX rfl (ses_right (gapT gap) v9 (sesT (gapT gap) (l.map timT)) (by first | assumption | decide) (by first | assumption | (unfold in64; omega)) (M.enterW0 ⟨((M.wideC0 0 rfl).imp fun _ h => own_slAt h), trivial⟩)) (CallsF.func Try.en40 rfl) ?_
    rintro _ w13 ⟨rfl, m⟩
    replace M := M.leaveW0 m
    clear m
    replace M : Mem _ _ _ [own 65 2 v9 ((sesT (gapT gap) (l.map timT)).length) ((sesT (gapT gap) (l.map timT)).flatMap spanE), own 2 1 v5 ((l.map timT).length) ((l.map timT).flatMap intE)] [SlAt 1 lv l.length (l.flatMap intE)] _ := M
    rw [(show (rightB (gapT gap) (sesT (gapT gap) (l.map timT))) = true by exact sesT_right (gapT_in gap).1 _)]
    refine WL.step (v := (Value.bool false)) rfl (Step.pure (by kernel_rfl)) ?_
    refine WL.step (v := (Value.bool false)) rfl (Step.pick (t := false) rfl rfl) ?_
    refine WL.nil ?_
    refine W.cond (t := false) rfl (fun h => by cases h) (fun _ => ?_)
    refine W.skip ?_
    refine W.seq' ?_
    refine W.region rfl ?_
    refine WL.step (v := (Value.slice none 0 0)) rfl (Step.assign rfl) ?_
    refine WL.nil ?_
    refine W.seq' ?_
    refine W.seq' ?_
    refine W.region rfl ?_
    refine WL.step (v := (Value.int .i64 0)) rfl (Step.assign rfl) ?_
    refine WL.nil ?_
    refine W.block ?_
    obtain ⟨k_, hk_⟩ : ∃ k_ : Nat, k_ = (pickI by_ (↑(l.map timT).length)).toNat := ⟨_, rfl⟩
    replace M := M.ownNil 65 2
    replace M : Mem _ _ _ [own 65 2 (Value.slice none 0 0) (([] : List Span).length) (([] : List Span).flatMap spanE), own 65 2 v9 ((sesT (gapT gap) (l.map timT)).length) ((sesT (gapT gap) (l.map timT)).flatMap spanE), own 2 1 v5 ((l.map timT).length) ((l.map timT).flatMap intE)] [SlAt 1 lv l.length (l.flatMap intE)] _ := M
    replace M := M.rechunk 0 (c' := own 65 2 (Value.slice none 0 0) ((sesT (gapT gap) ((rotT (l.map timT) k_).take 0)).length) ((sesT (gapT gap) ((rotT (l.map timT) k_).take 0)).flatMap spanE)) rfl (by rw [sesT_nil])
    replace M : Mem _ _ _ [own 65 2 (Value.slice none 0 0) ((sesT (gapT gap) ((rotT (l.map timT) k_).take 0)).length) ((sesT (gapT gap) ((rotT (l.map timT) k_).take 0)).flatMap spanE), own 65 2 v9 ((sesT (gapT gap) (l.map timT)).length) ((sesT (gapT gap) (l.map timT)).flatMap spanE), own 2 1 v5 ((l.map timT).length) ((l.map timT).flatMap intE)] [SlAt 1 lv l.length (l.flatMap intE)] _ := M
    replace M := M.sel (L' := [own 65 2 (Value.slice none 0 0) ((sesT (gapT gap) ((rotT (l.map timT) k_).take 0)).length) ((sesT (gapT gap) ((rotT (l.map timT) k_).take 0)).flatMap spanE), own 65 2 v9 ((sesT (gapT gap) (l.map timT)).length) ((sesT (gapT gap) (l.map timT)).flatMap spanE), own 2 1 v5 ((l.map timT).length) ((l.map timT).flatMap intE)]) [0, 1, 2] rfl (by decide)
    replace M : Mem _ _ _ [own 65 2 (Value.slice none 0 0) ((sesT (gapT gap) ((rotT (l.map timT) k_).take 0)).length) ((sesT (gapT gap) ((rotT (l.map timT) k_).take 0)).flatMap spanE), own 65 2 v9 ((sesT (gapT gap) (l.map timT)).length) ((sesT (gapT gap) (l.map timT)).flatMap spanE), own 2 1 v5 ((l.map timT).length) ((l.map timT).flatMap intE)] [SlAt 1 lv l.length (l.flatMap intE)] _ := M
    refine W.loop (fun kk ρ w' => ∃ (i_ : Nat) (nv_ : Value), ((i_ ≤ (l.map timT).length) ∧ kk = (l.map timT).length - i_) ∧ ρ.has [(0, (Value.int .i64 (gapT gap))), (2, (Value.int .i64 by_)), (7, v5), (8, v9), (10, nv_), (11, (Value.int .i64 ↑i_))] ∧ Mem G (fun _ => False) w [own 65 2 nv_ ((sesT (gapT gap) ((rotT (l.map timT) k_).take i_)).length) ((sesT (gapT gap) ((rotT (l.map timT) k_).take i_)).flatMap spanE), own 65 2 v9 ((sesT (gapT gap) (l.map timT)).length) ((sesT (gapT gap) (l.map timT)).flatMap spanE), own 2 1 v5 ((l.map timT).length) ((l.map timT).flatMap intE)] [SlAt 1 lv l.length (l.flatMap intE)]  w') _ ⟨0, _, ⟨(Nat.zero_le _), rfl⟩, ⟨rfl, rfl, rfl, rfl, rfl, rfl, rfl, rfl⟩, M⟩ ?_
    rintro _ ρ15 w14 ⟨i_, nv_, ⟨hi16, rfl⟩, hρ, M⟩
    obtain ⟨ρ15, rfl⟩ := hρ.know
    clear hρ
    have sl17 : IsSl nv_ := SlAt.isSl (own_slAt (M.chunk 0 rfl).inv)
    refine W.seq' ?_
    refine W.seq' ?_
    refine W.region rfl ?_
    refine WL.step (v := (Value.int .i64 ↑i_)) rfl (Step.move rfl) ?_
    refine WL.step (v := v5) rfl (Step.move rfl) ?_
    refine WL.step (v := (Value.int .i64 (↑((l.map timT).length)))) rfl (Step.lenSl Try.un70 rfl (own_slAt (M.chunk 2 rfl).inv)) ?_
    refine WL.step (v := (Value.bool (decide ((↑i_ : Int) < (↑((l.map timT).length) : Int))))) rfl (Step.pure (by kernel_rfl)) ?_
    refine WL.nil ?_
    refine W.cond (t := decide ((↑i_ : Int) < (↑((l.map timT).length) : Int))) rfl (fun h18 => ?_) (fun h18 => ?_)
    ·
      have h18p := of_decide_eq_true h18
      refine W.skip ?_
      refine W.seq' ?_
      refine W.block ?_
      refine W.seq' ?_
      refine W.region rfl ?_
      refine WL.step (v := v5) rfl (Step.move rfl) ?_
      refine WL.step (v := (Value.int .i64 ↑i_)) rfl (Step.move rfl) ?_
      refine WL.step (v := (Value.int .i64 by_)) rfl (Step.move rfl) ?_
      refine WL.step (v := v5) rfl (Step.move rfl) ?_
      refine WL.step (v := (Value.int .i64 (↑((l.map timT).length)))) rfl (Step.lenSl Try.un70 rfl (own_slAt (M.chunk 2 rfl).inv)) ?_
      refine WL.callX rfl (kit_pick by_ (↑((l.map timT).length)) (by omega) (M.enterW0 trivial)) (CallsF.func Try.en24 rfl) ?_
      rintro _ w19 ⟨rfl, m⟩
      replace M := M.leaveW0 m
      clear m
      replace M : Mem _ _ _ [own 65 2 nv_ ((sesT (gapT gap) ((rotT (l.map timT) k_).take i_)).length) ((sesT (gapT gap) ((rotT (l.map timT) k_).take i_)).flatMap spanE), own 65 2 v9 ((sesT (gapT gap) (l.map timT)).length) ((sesT (gapT gap) (l.map timT)).flatMap spanE), own 2 1 v5 ((l.map timT).length) ((l.map timT).flatMap intE)] [SlAt 1 lv l.length (l.flatMap intE)] _ := M
      obtain ⟨kk_, hkk_, hkl_⟩ := pick_nat (i := by_) (n := (↑(l.map timT).length : Int)) (by omega)
      have hke_ : kk_ = k_ := by rw [hk_, hkk_]; rfl
      subst hke_
      rw [hkk_]
      have hml_ := Nat.mod_lt (i_ + kk_) (show 0 < (l.map timT).length by omega)
      have hsl_ := rot_len (gapT_in gap).1 (l.map timT) kk_ i_
      have hsl2_ := rot_len (gapT_in gap).1 (l.map timT) kk_ (i_ + 1)
      have hsi_ := sesT_in (gapT_in gap) (rot_in (l := l) (k := kk_) (i := i_))
      have hsi2_ := sesT_in (gapT_in gap) (rot_in (l := l) (k := kk_) (i := i_ + 1))
      replace M : Mem _ _ _ [own 65 2 nv_ ((sesT (gapT gap) ((rotT (l.map timT) kk_).take i_)).length) ((sesT (gapT gap) ((rotT (l.map timT) kk_).take i_)).flatMap spanE), own 65 2 v9 ((sesT (gapT gap) (l.map timT)).length) ((sesT (gapT gap) (l.map timT)).flatMap spanE), own 2 1 v5 ((l.map timT).length) ((l.map timT).flatMap intE)] [SlAt 1 lv l.length (l.flatMap intE)] _ := M
      change WL _ _ _ _ _ (Env.put _ _ (Value.int .i64 ↑kk_)) _
      refine WL.step (v := (Value.int .i64 (↑i_ + ↑kk_))) rfl (Step.add rfl rfl (wrap_i64 (by omega))) ?_
      refine WL.step (v := v5) rfl (Step.move rfl) ?_
      refine WL.step (v := (Value.int .i64 (↑((l.map timT).length)))) rfl (Step.lenSl Try.un70 rfl (own_slAt (M.chunk 2 rfl).inv)) ?_
      refine WL.step (v := (Value.int .i64 (↑((i_ + kk_) % (l.map timT).length)))) rfl (Step.cast (congrArg (Value.int .i64) (tmod_two i_ kk_ _)) (Step.rem rfl rfl (by omega))) ?_
      obtain ⟨cap21, hb20⟩ := SlAt.base (own_slAt (M.chunk 2 rfl).inv) (by omega)
      obtain ⟨x22, hx22⟩ := elem_of_lt (xs := l.map timT) (i := (i_ + kk_) % (l.map timT).length) (by omega)
      obtain ⟨_, _⟩ := timT_all l _ (List.mem_of_getElem? hx22)
      refine WL.step (v := (Value.pointer (some ⟨(sBlk v5), sOff v5 + ((i_ + kk_) % (l.map timT).length) * 1, none⟩))) rfl (Step.indexAddr (i := (i_ + kk_) % (l.map timT).length) (Try.un70).run Try.el2.sized rfl rfl (by omega) hb20 (by omega)) ?_
      refine WL.step (v := (Value.int .i64 x22)) rfl (Step.loadE (k := 0) Try.sc2 (flat_ec (own_slAt (M.chunk 2 rfl).inv) hx22 intE_len) (by decide) rfl rfl) ?_
      refine WL.step (v := (Value.int .i64 x22)) rfl (Step.assign rfl) ?_
      refine WL.nil ?_
      refine W.seq' ?_
      refine W.region rfl ?_
      refine WL.step (v := (Value.int .i64 (gapT gap))) rfl (Step.move rfl) ?_
      refine WL.step (v := (Value.int .i64 x22)) rfl (Step.move rfl) ?_
      refine WL.step (v := nv_) rfl (Step.move rfl) ?_
      refine WL.callX rfl (ses_ins (gapT gap) x22 nv_ (sesT (gapT gap) ((rotT (l.map timT) kk_).take i_)) (by first | omega | assumption | decide | (simp only [List.length_nil, List.length_cons, List.length_take, List.length_drop]; omega)) (by first | assumption | decide) (show (okI (gapT gap) x22 (sesT (gapT gap) ((rotT (l.map timT) kk_).take i_))) = true by exact okI_ses (gapT_in gap) ⟨by omega, by omega⟩) (M.enterW0 ⟨((M.wideC0 0 rfl).imp fun _ h => own_slAt h), trivial⟩)) (CallsF.func Try.en32 rfl) ?_
      rintro _ w25 ⟨j23, a24, rfl, m⟩
      replace M := M.leaveW0 m
      clear m
      replace M : Mem _ _ _ [own 65 2 j23 ((insJ (sesT (gapT gap) ((rotT (l.map timT) kk_).take i_)) (⟨x22, x22 + (gapT gap)⟩ : Span)).length) ((insJ (sesT (gapT gap) ((rotT (l.map timT) kk_).take i_)) (⟨x22, x22 + (gapT gap)⟩ : Span)).flatMap spanE), own 65 2 a24 ((insA (sesT (gapT gap) ((rotT (l.map timT) kk_).take i_)) (⟨x22, x22 + (gapT gap)⟩ : Span)).length) ((insA (sesT (gapT gap) ((rotT (l.map timT) kk_).take i_)) (⟨x22, x22 + (gapT gap)⟩ : Span)).flatMap spanE), own 65 2 nv_ ((sesT (gapT gap) ((rotT (l.map timT) kk_).take i_)).length) ((sesT (gapT gap) ((rotT (l.map timT) kk_).take i_)).flatMap spanE), own 65 2 v9 ((sesT (gapT gap) (l.map timT)).length) ((sesT (gapT gap) (l.map timT)).flatMap spanE), own 2 1 v5 ((l.map timT).length) ((l.map timT).flatMap intE)] [SlAt 1 lv l.length (l.flatMap intE)] _ := M
      have sl26 : IsSl j23 := SlAt.isSl (own_slAt (Mem.chunk M 0 rfl).inv)
      have hle27 := SlAt.le' (own_slAt (Mem.chunk M 0 rfl).inv)
      have sl28 : IsSl a24 := SlAt.isSl (own_slAt (Mem.chunk M 1 rfl).inv)
      have hle29 := SlAt.le' (own_slAt (Mem.chunk M 1 rfl).inv)
      have hra_ := rot_at (by omega) (by omega) hx22
      have hrf_ := rot_find (gapT_in gap).1 hra_
      have hrc_ := rot_count (gapT_in gap).1 hra_
      have hij_ := insJ_len (sesT (gapT gap) ((rotT (l.map timT) kk_).take i_)) (⟨x22, x22 + gapT gap⟩ : Span)
      replace M := M.rechunk 1 (c' := own 65 2 a24 ((sesT (gapT gap) ((rotT (l.map timT) kk_).take (i_ + 1))).length) ((sesT (gapT gap) ((rotT (l.map timT) kk_).take (i_ + 1))).flatMap spanE)) rfl (by rw [rot_ins (gapT_in gap).1 hra_])
      replace M : Mem _ _ _ [own 65 2 j23 ((insJ (sesT (gapT gap) ((rotT (l.map timT) kk_).take i_)) (⟨x22, x22 + (gapT gap)⟩ : Span)).length) ((insJ (sesT (gapT gap) ((rotT (l.map timT) kk_).take i_)) (⟨x22, x22 + (gapT gap)⟩ : Span)).flatMap spanE), own 65 2 a24 ((sesT (gapT gap) ((rotT (l.map timT) kk_).take (i_ + 1))).length) ((sesT (gapT gap) ((rotT (l.map timT) kk_).take (i_ + 1))).flatMap spanE), own 65 2 nv_ ((sesT (gapT gap) ((rotT (l.map timT) kk_).take i_)).length) ((sesT (gapT gap) ((rotT (l.map timT) kk_).take i_)).flatMap spanE), own 65 2 v9 ((sesT (gapT gap) (l.map timT)).length) ((sesT (gapT gap) (l.map timT)).flatMap spanE), own 2 1 v5 ((l.map timT).length) ((l.map timT).flatMap intE)] [SlAt 1 lv l.length (l.flatMap intE)] _ := M
      refine WL.step (v := (Value.tuple #[j23, (Value.agg #[(Value.int .i64 ((insN (sesT (gapT gap) ((rotT (l.map timT) kk_).take i_)) (⟨x22, x22 + (gapT gap)⟩ : Span)).start)), (Value.int .i64 ((insN (sesT (gapT gap) ((rotT (l.map timT) kk_).take i_)) (⟨x22, x22 + (gapT gap)⟩ : Span)).fin))]), a24, (Value.int .i64 0)])) rfl (Step.move rfl) ?_
      refine WL.step (v := j23) rfl (Step.pure (by kernel_rfl)) ?_
      refine WL.step (v := (Value.agg #[(Value.int .i64 ((insN (sesT (gapT gap) ((rotT (l.map timT) kk_).take i_)) (⟨x22, x22 + (gapT gap)⟩ : Span)).start)), (Value.int .i64 ((insN (sesT (gapT gap) ((rotT (l.map timT) kk_).take i_)) (⟨x22, x22 + (gapT gap)⟩ : Span)).fin))])) rfl (Step.pure (by kernel_rfl)) ?_
      refine WL.step (v := a24) rfl (Step.pure (by kernel_rfl)) ?_
      refine WL.step (v := (Value.int .i64 0)) rfl (Step.pure (by kernel_rfl)) ?_
      refine WL.alloc (c := #[(Value.int .i64 0), (Value.int .i64 0)]) M rfl Try.el65.zero rfl (fun b30 w31 hb30 M => ?_)
      refine WL.step (v := j23) rfl (Step.assign rfl) ?_
      refine WL.store (v := (Value.agg #[(Value.int .i64 ((insN (sesT (gapT gap) ((rotT (l.map timT) kk_).take i_)) (⟨x22, x22 + (gapT gap)⟩ : Span)).start)), (Value.int .i64 ((insN (sesT (gapT gap) ((rotT (l.map timT) kk_).take i_)) (⟨x22, x22 + (gapT gap)⟩ : Span)).fin))])) (cs := [(Value.int .i64 ((insN (sesT (gapT gap) ((rotT (l.map timT) kk_).take i_)) (⟨x22, x22 + (gapT gap)⟩ : Span)).start)), (Value.int .i64 ((insN (sesT (gapT gap) ((rotT (l.map timT) kk_).take i_)) (⟨x22, x22 + (gapT gap)⟩ : Span)).fin))]) (c' := #[(Value.int .i64 ((insN (sesT (gapT gap) ((rotT (l.map timT) kk_).take i_)) (⟨x22, x22 + (gapT gap)⟩ : Span)).start)), (Value.int .i64 ((insN (sesT (gapT gap) ((rotT (l.map timT) kk_).take i_)) (⟨x22, x22 + (gapT gap)⟩ : Span)).fin))]) M 0 rfl rfl Try.el65.sized rfl rfl rfl rfl (Nat.le_of_ble_eq_true rfl) (cel_cons rfl (cel_cons rfl cel_nil)) rfl rfl (fun w32 M => ?_)
      refine WL.step (v := a24) rfl (Step.assign rfl) ?_
      refine WL.step (v := (Value.int .i64 0)) rfl (Step.assign rfl) ?_
      refine WL.nil ?_
      refine W.seq' ?_
      refine W.region rfl ?_
      refine WL.step (v := (Value.int .i64 x22)) rfl (Step.move rfl) ?_
      refine WL.step (v := a24) rfl (Step.move rfl) ?_
      refine WL.callX rfl (ses_find x22 a24 (sesT (gapT gap) ((rotT (l.map timT) kk_).take (i_ + 1))) (M.enterW0 ⟨((M.wideC0 2 rfl).imp fun _ h => own_slAt h), trivial⟩)) (CallsF.func Try.en36 rfl) ?_
      rintro _ w33 ⟨rfl, m⟩
      replace M := M.leaveW0 m
      clear m
      replace M : Mem _ _ _ [blk b30 (.cells #[(Value.int .i64 ((insN (sesT (gapT gap) ((rotT (l.map timT) kk_).take i_)) (⟨x22, x22 + (gapT gap)⟩ : Span)).start)), (Value.int .i64 ((insN (sesT (gapT gap) ((rotT (l.map timT) kk_).take i_)) (⟨x22, x22 + (gapT gap)⟩ : Span)).fin))] 65), own 65 2 j23 ((insJ (sesT (gapT gap) ((rotT (l.map timT) kk_).take i_)) (⟨x22, x22 + (gapT gap)⟩ : Span)).length) ((insJ (sesT (gapT gap) ((rotT (l.map timT) kk_).take i_)) (⟨x22, x22 + (gapT gap)⟩ : Span)).flatMap spanE), own 65 2 a24 ((sesT (gapT gap) ((rotT (l.map timT) kk_).take (i_ + 1))).length) ((sesT (gapT gap) ((rotT (l.map timT) kk_).take (i_ + 1))).flatMap spanE), own 65 2 nv_ ((sesT (gapT gap) ((rotT (l.map timT) kk_).take i_)).length) ((sesT (gapT gap) ((rotT (l.map timT) kk_).take i_)).flatMap spanE), own 65 2 v9 ((sesT (gapT gap) (l.map timT)).length) ((sesT (gapT gap) (l.map timT)).flatMap spanE), own 2 1 v5 ((l.map timT).length) ((l.map timT).flatMap intE)] [SlAt 1 lv l.length (l.flatMap intE)] _ := M
      refine WL.step (v := (Value.tuple #[(Value.agg #[(Value.int .i64 (((findS x22 (sesT (gapT gap) ((rotT (l.map timT) kk_).take (i_ + 1)))).1).start)), (Value.int .i64 (((findS x22 (sesT (gapT gap) ((rotT (l.map timT) kk_).take (i_ + 1)))).1).fin))]), (Value.bool ((findS x22 (sesT (gapT gap) ((rotT (l.map timT) kk_).take (i_ + 1)))).2))])) rfl (Step.move rfl) ?_
      refine WL.step (v := (Value.agg #[(Value.int .i64 (((findS x22 (sesT (gapT gap) ((rotT (l.map timT) kk_).take (i_ + 1)))).1).start)), (Value.int .i64 (((findS x22 (sesT (gapT gap) ((rotT (l.map timT) kk_).take (i_ + 1)))).1).fin))])) rfl (Step.pure (by kernel_rfl)) ?_
      refine WL.step (v := (Value.bool true)) rfl (Step.cast (congrArg Value.bool (show ((findS x22 (sesT (gapT gap) ((rotT (l.map timT) kk_).take (i_ + 1)))).2) = true by rw [hrf_])) (Step.pure (by kernel_rfl))) ?_
      refine WL.alloc (c := #[(Value.int .i64 0), (Value.int .i64 0)]) M rfl Try.el65.zero rfl (fun b34 w35 hb34 M => ?_)
      refine WL.store (v := (Value.agg #[(Value.int .i64 (((findS x22 (sesT (gapT gap) ((rotT (l.map timT) kk_).take (i_ + 1)))).1).start)), (Value.int .i64 (((findS x22 (sesT (gapT gap) ((rotT (l.map timT) kk_).take (i_ + 1)))).1).fin))])) (cs := [(Value.int .i64 (((findS x22 (sesT (gapT gap) ((rotT (l.map timT) kk_).take (i_ + 1)))).1).start)), (Value.int .i64 (((findS x22 (sesT (gapT gap) ((rotT (l.map timT) kk_).take (i_ + 1)))).1).fin))]) (c' := #[(Value.int .i64 (((findS x22 (sesT (gapT gap) ((rotT (l.map timT) kk_).take (i_ + 1)))).1).start)), (Value.int .i64 (((findS x22 (sesT (gapT gap) ((rotT (l.map timT) kk_).take (i_ + 1)))).1).fin))]) M 0 rfl rfl Try.el65.sized rfl rfl rfl rfl (Nat.le_of_ble_eq_true rfl) (cel_cons rfl (cel_cons rfl cel_nil)) rfl rfl (fun w36 M => ?_)
      refine WL.step (v := (Value.bool true)) rfl (Step.assign rfl) ?_
      refine WL.nil ?_
      refine W.seq' ?_
      refine W.seq' ?_
      refine W.region rfl ?_
      refine WL.step (v := (Value.int .i64 0)) rfl (Step.move rfl) ?_
      refine WL.step (v := (Value.bool false)) rfl (Step.pure (by kernel_rfl)) ?_
      refine WL.step (v := (Value.bool false)) rfl (Step.move rfl) ?_
      refine WL.step (v := (Value.bool true)) rfl (Step.move rfl) ?_
      refine WL.step (v := (Value.bool false)) rfl (Step.pure (by kernel_rfl)) ?_
      refine WL.step (v := (Value.bool false)) rfl (Step.pick (t := false) rfl rfl) ?_
      refine WL.step (v := (Value.bool false)) rfl (Step.move rfl) ?_
      refine WL.step (v := (Value.agg #[(Value.int .i64 (((findS x22 (sesT (gapT gap) ((rotT (l.map timT) kk_).take (i_ + 1)))).1).start)), (Value.int .i64 (((findS x22 (sesT (gapT gap) ((rotT (l.map timT) kk_).take (i_ + 1)))).1).fin))])) rfl (Step.loadN Try.ag65 rfl (M.blk 0 rfl) (Nat.le_of_ble_eq_true rfl) rfl) ?_
      refine WL.step (v := (Value.agg #[(Value.int .i64 ((insN (sesT (gapT gap) ((rotT (l.map timT) kk_).take i_)) (⟨x22, x22 + (gapT gap)⟩ : Span)).start)), (Value.int .i64 ((insN (sesT (gapT gap) ((rotT (l.map timT) kk_).take i_)) (⟨x22, x22 + (gapT gap)⟩ : Span)).fin))])) rfl (Step.loadN Try.ag65 rfl (M.blk 1 rfl) (Nat.le_of_ble_eq_true rfl) rfl) ?_
      refine WL.step (v := (Value.bool false)) rfl (Step.cast (congrArg Value.bool (show (!decide (((findS x22 (sesT (gapT gap) ((rotT (l.map timT) kk_).take (i_ + 1)))).1) = (insN (sesT (gapT gap) ((rotT (l.map timT) kk_).take i_)) (⟨x22, x22 + (gapT gap)⟩ : Span)))) = false by rw [hrf_]; simp)) (Step.cast (congrArg (fun z => Value.bool (!z)) (span_eqB ((findS x22 (sesT (gapT gap) ((rotT (l.map timT) kk_).take (i_ + 1)))).1) (insN (sesT (gapT gap) ((rotT (l.map timT) kk_).take i_)) (⟨x22, x22 + (gapT gap)⟩ : Span)))) (Step.neqAgg Try.eg65 rfl rfl rfl (Try.eq65 9998 (((findS x22 (sesT (gapT gap) ((rotT (l.map timT) kk_).take (i_ + 1)))).1).start : Int) (((findS x22 (sesT (gapT gap) ((rotT (l.map timT) kk_).take (i_ + 1)))).1).fin : Int) ((insN (sesT (gapT gap) ((rotT (l.map timT) kk_).take i_)) (⟨x22, x22 + (gapT gap)⟩ : Span)).start : Int) ((insN (sesT (gapT gap) ((rotT (l.map timT) kk_).take i_)) (⟨x22, x22 + (gapT gap)⟩ : Span)).fin : Int))))) ?_
      refine WL.step (v := (Value.bool false)) rfl (Step.pick (t := false) rfl rfl) ?_
      refine WL.step (v := (Value.bool false)) rfl (Step.move rfl) ?_
      refine WL.step (v := a24) rfl (Step.move rfl) ?_
      refine WL.step (v := (Value.int .i64 (↑((sesT (gapT gap) ((rotT (l.map timT) kk_).take (i_ + 1))).length)))) rfl (Step.lenSl Try.un58 rfl (own_slAt (M.chunk 3 rfl).inv)) ?_
      refine WL.step (v := nv_) rfl (Step.move rfl) ?_
      refine WL.step (v := (Value.int .i64 (↑((sesT (gapT gap) ((rotT (l.map timT) kk_).take i_)).length)))) rfl (Step.lenSl Try.un58 rfl (own_slAt (M.chunk 4 rfl).inv)) ?_
      refine WL.step (v := j23) rfl (Step.move rfl) ?_
      refine WL.step (v := (Value.int .i64 (↑((insJ (sesT (gapT gap) ((rotT (l.map timT) kk_).take i_)) (⟨x22, x22 + (gapT gap)⟩ : Span)).length)))) rfl (Step.lenSl Try.un58 rfl (own_slAt (M.chunk 2 rfl).inv)) ?_
      refine WL.step (v := (Value.int .i64 ((↑((sesT (gapT gap) ((rotT (l.map timT) kk_).take i_)).length) : Int) - (↑((insJ (sesT (gapT gap) ((rotT (l.map timT) kk_).take i_)) (⟨x22, x22 + (gapT gap)⟩ : Span)).length))))) rfl (Step.sub rfl rfl (wrap_i64 (by omega))) ?_
      refine WL.step (v := (Value.int .i64 ((↑((sesT (gapT gap) ((rotT (l.map timT) kk_).take i_)).length) : Int) - (↑((insJ (sesT (gapT gap) ((rotT (l.map timT) kk_).take i_)) (⟨x22, x22 + (gapT gap)⟩ : Span)).length)) + 1))) rfl (Step.add rfl rfl (wrap_i64 (by omega))) ?_
      refine WL.step (v := (Value.bool false)) rfl (Step.cast (congrArg Value.bool (show ((↑((sesT (gapT gap) ((rotT (l.map timT) kk_).take (i_ + 1))).length) : Int) != ((↑((sesT (gapT gap) ((rotT (l.map timT) kk_).take i_)).length) : Int) - (↑((insJ (sesT (gapT gap) ((rotT (l.map timT) kk_).take i_)) (⟨x22, x22 + (gapT gap)⟩ : Span)).length)) + 1 : Int)) = false by rw [bne_eq_false_iff_eq]; omega)) (Step.pure (by kernel_rfl))) ?_
      refine WL.step (v := (Value.bool false)) rfl (Step.pick (t := false) rfl rfl) ?_
      refine WL.nil ?_
      refine W.cond (t := false) rfl (fun h => by cases h) (fun _ => ?_)
      refine W.skip ?_
      refine W.seq' ?_
      refine W.region rfl ?_
      refine WL.step (v := a24) rfl (Step.move rfl) ?_
      refine WL.step (v := a24) rfl (Step.assign rfl) ?_
      refine WL.nil ?_
      refine W.seq' ?_
      refine W.region rfl ?_
      refine WL.step (v := (Value.int .i64 (gapT gap))) rfl (Step.move rfl) ?_
      refine WL.step (v := (Value.int .i64 x22)) rfl (Step.move rfl) ?_
      refine WL.step (v := a24) rfl (Step.move rfl) ?_
      refine WL.callX rfl (ses_ins (gapT gap) x22 a24 (sesT (gapT gap) ((rotT (l.map timT) kk_).take (i_ + 1))) (by first | omega | assumption | decide | (simp only [List.length_nil, List.length_cons, List.length_take, List.length_drop]; omega)) (by first | assumption | decide) (show (okI (gapT gap) x22 (sesT (gapT gap) ((rotT (l.map timT) kk_).take (i_ + 1)))) = true by exact okI_ses (gapT_in gap) ⟨by omega, by omega⟩) (M.enterW0 ⟨((M.wideC0 3 rfl).imp fun _ h => own_slAt h), trivial⟩)) (CallsF.func Try.en32 rfl) ?_
      rintro _ w39 ⟨j37, a38, rfl, m⟩
      replace M := M.leaveW0 m
      clear m
      replace M : Mem _ _ _ [own 65 2 j37 ((insJ (sesT (gapT gap) ((rotT (l.map timT) kk_).take (i_ + 1))) (⟨x22, x22 + (gapT gap)⟩ : Span)).length) ((insJ (sesT (gapT gap) ((rotT (l.map timT) kk_).take (i_ + 1))) (⟨x22, x22 + (gapT gap)⟩ : Span)).flatMap spanE), own 65 2 a38 ((insA (sesT (gapT gap) ((rotT (l.map timT) kk_).take (i_ + 1))) (⟨x22, x22 + (gapT gap)⟩ : Span)).length) ((insA (sesT (gapT gap) ((rotT (l.map timT) kk_).take (i_ + 1))) (⟨x22, x22 + (gapT gap)⟩ : Span)).flatMap spanE), blk b34 (.cells #[(Value.int .i64 (((findS x22 (sesT (gapT gap) ((rotT (l.map timT) kk_).take (i_ + 1)))).1).start)), (Value.int .i64 (((findS x22 (sesT (gapT gap) ((rotT (l.map timT) kk_).take (i_ + 1)))).1).fin))] 65), blk b30 (.cells #[(Value.int .i64 ((insN (sesT (gapT gap) ((rotT (l.map timT) kk_).take i_)) (⟨x22, x22 + (gapT gap)⟩ : Span)).start)), (Value.int .i64 ((insN (sesT (gapT gap) ((rotT (l.map timT) kk_).take i_)) (⟨x22, x22 + (gapT gap)⟩ : Span)).fin))] 65), own 65 2 j23 ((insJ (sesT (gapT gap) ((rotT (l.map timT) kk_).take i_)) (⟨x22, x22 + (gapT gap)⟩ : Span)).length) ((insJ (sesT (gapT gap) ((rotT (l.map timT) kk_).take i_)) (⟨x22, x22 + (gapT gap)⟩ : Span)).flatMap spanE), own 65 2 a24 ((sesT (gapT gap) ((rotT (l.map timT) kk_).take (i_ + 1))).length) ((sesT (gapT gap) ((rotT (l.map timT) kk_).take (i_ + 1))).flatMap spanE), own 65 2 nv_ ((sesT (gapT gap) ((rotT (l.map timT) kk_).take i_)).length) ((sesT (gapT gap) ((rotT (l.map timT) kk_).take i_)).flatMap spanE), own 65 2 v9 ((sesT (gapT gap) (l.map timT)).length) ((sesT (gapT gap) (l.map timT)).flatMap spanE), own 2 1 v5 ((l.map timT).length) ((l.map timT).flatMap intE)] [SlAt 1 lv l.length (l.flatMap intE)] _ := M
      have sl40 : IsSl j37 := SlAt.isSl (own_slAt (Mem.chunk M 0 rfl).inv)
      have hle41 := SlAt.le' (own_slAt (Mem.chunk M 0 rfl).inv)
      have sl42 : IsSl a38 := SlAt.isSl (own_slAt (Mem.chunk M 1 rfl).inv)
      have hle43 := SlAt.le' (own_slAt (Mem.chunk M 1 rfl).inv)
      replace M := M.rechunk 1 (c' := own 65 2 a38 ((sesT (gapT gap) ((rotT (l.map timT) kk_).take (i_ + 1))).length) ((sesT (gapT gap) ((rotT (l.map timT) kk_).take (i_ + 1))).flatMap spanE)) rfl (by rw [rot_again (gapT_in gap).1 hra_])
      replace M : Mem _ _ _ [own 65 2 j37 ((insJ (sesT (gapT gap) ((rotT (l.map timT) kk_).take (i_ + 1))) (⟨x22, x22 + (gapT gap)⟩ : Span)).length) ((insJ (sesT (gapT gap) ((rotT (l.map timT) kk_).take (i_ + 1))) (⟨x22, x22 + (gapT gap)⟩ : Span)).flatMap spanE), own 65 2 a38 ((sesT (gapT gap) ((rotT (l.map timT) kk_).take (i_ + 1))).length) ((sesT (gapT gap) ((rotT (l.map timT) kk_).take (i_ + 1))).flatMap spanE), blk b34 (.cells #[(Value.int .i64 (((findS x22 (sesT (gapT gap) ((rotT (l.map timT) kk_).take (i_ + 1)))).1).start)), (Value.int .i64 (((findS x22 (sesT (gapT gap) ((rotT (l.map timT) kk_).take (i_ + 1)))).1).fin))] 65), blk b30 (.cells #[(Value.int .i64 ((insN (sesT (gapT gap) ((rotT (l.map timT) kk_).take i_)) (⟨x22, x22 + (gapT gap)⟩ : Span)).start)), (Value.int .i64 ((insN (sesT (gapT gap) ((rotT (l.map timT) kk_).take i_)) (⟨x22, x22 + (gapT gap)⟩ : Span)).fin))] 65), own 65 2 j23 ((insJ (sesT (gapT gap) ((rotT (l.map timT) kk_).take i_)) (⟨x22, x22 + (gapT gap)⟩ : Span)).length) ((insJ (sesT (gapT gap) ((rotT (l.map timT) kk_).take i_)) (⟨x22, x22 + (gapT gap)⟩ : Span)).flatMap spanE), own 65 2 a24 ((sesT (gapT gap) ((rotT (l.map timT) kk_).take (i_ + 1))).length) ((sesT (gapT gap) ((rotT (l.map timT) kk_).take (i_ + 1))).flatMap spanE), own 65 2 nv_ ((sesT (gapT gap) ((rotT (l.map timT) kk_).take i_)).length) ((sesT (gapT gap) ((rotT (l.map timT) kk_).take i_)).flatMap spanE), own 65 2 v9 ((sesT (gapT gap) (l.map timT)).length) ((sesT (gapT gap) (l.map timT)).flatMap spanE), own 2 1 v5 ((l.map timT).length) ((l.map timT).flatMap intE)] [SlAt 1 lv l.length (l.flatMap intE)] _ := M
      refine WL.step (v := (Value.tuple #[j37, (Value.agg #[(Value.int .i64 ((insN (sesT (gapT gap) ((rotT (l.map timT) kk_).take (i_ + 1))) (⟨x22, x22 + (gapT gap)⟩ : Span)).start)), (Value.int .i64 ((insN (sesT (gapT gap) ((rotT (l.map timT) kk_).take (i_ + 1))) (⟨x22, x22 + (gapT gap)⟩ : Span)).fin))]), a38, (Value.int .i64 0)])) rfl (Step.move rfl) ?_
      refine WL.step (v := j37) rfl (Step.pure (by kernel_rfl)) ?_
      refine WL.step (v := (Value.agg #[(Value.int .i64 ((insN (sesT (gapT gap) ((rotT (l.map timT) kk_).take (i_ + 1))) (⟨x22, x22 + (gapT gap)⟩ : Span)).start)), (Value.int .i64 ((insN (sesT (gapT gap) ((rotT (l.map timT) kk_).take (i_ + 1))) (⟨x22, x22 + (gapT gap)⟩ : Span)).fin))])) rfl (Step.pure (by kernel_rfl)) ?_
      refine WL.step (v := a38) rfl (Step.pure (by kernel_rfl)) ?_
      refine WL.step (v := (Value.int .i64 0)) rfl (Step.pure (by kernel_rfl)) ?_
      refine WL.alloc (c := #[(Value.int .i64 0), (Value.int .i64 0)]) M rfl Try.el65.zero rfl (fun b44 w45 hb44 M => ?_)
      refine WL.step (v := j37) rfl (Step.assign rfl) ?_
      refine WL.store (v := (Value.agg #[(Value.int .i64 ((insN (sesT (gapT gap) ((rotT (l.map timT) kk_).take (i_ + 1))) (⟨x22, x22 + (gapT gap)⟩ : Span)).start)), (Value.int .i64 ((insN (sesT (gapT gap) ((rotT (l.map timT) kk_).take (i_ + 1))) (⟨x22, x22 + (gapT gap)⟩ : Span)).fin))])) (cs := [(Value.int .i64 ((insN (sesT (gapT gap) ((rotT (l.map timT) kk_).take (i_ + 1))) (⟨x22, x22 + (gapT gap)⟩ : Span)).start)), (Value.int .i64 ((insN (sesT (gapT gap) ((rotT (l.map timT) kk_).take (i_ + 1))) (⟨x22, x22 + (gapT gap)⟩ : Span)).fin))]) (c' := #[(Value.int .i64 ((insN (sesT (gapT gap) ((rotT (l.map timT) kk_).take (i_ + 1))) (⟨x22, x22 + (gapT gap)⟩ : Span)).start)), (Value.int .i64 ((insN (sesT (gapT gap) ((rotT (l.map timT) kk_).take (i_ + 1))) (⟨x22, x22 + (gapT gap)⟩ : Span)).fin))]) M 0 rfl rfl Try.el65.sized rfl rfl rfl rfl (Nat.le_of_ble_eq_true rfl) (cel_cons rfl (cel_cons rfl cel_nil)) rfl rfl (fun w46 M => ?_)
      refine WL.step (v := a38) rfl (Step.assign rfl) ?_
      refine WL.step (v := (Value.int .i64 0)) rfl (Step.assign rfl) ?_
      refine WL.nil ?_
      refine W.seq' ?_
      refine W.region rfl ?_
      refine WL.step (v := (Value.int .i64 0)) rfl (Step.move rfl) ?_
      refine WL.step (v := (Value.bool false)) rfl (Step.pure (by kernel_rfl)) ?_
      refine WL.step (v := (Value.bool false)) rfl (Step.move rfl) ?_
      refine WL.step (v := a38) rfl (Step.move rfl) ?_
      refine WL.step (v := a24) rfl (Step.move rfl) ?_
      refine WL.callX rfl (law17_refs a24 (sesT (gapT gap) ((rotT (l.map timT) kk_).take (i_ + 1))) (by first | omega | assumption | decide | (simp only [List.length_nil, List.length_cons, List.length_take, List.length_drop]; omega)) (M.enterW0 ⟨((M.wideC0 6 rfl).imp fun _ h => own_slAt h), trivial⟩)) (CallsF.func Try.en30 rfl) ?_
      rintro v47 w48 ⟨_, rfl, m⟩
      replace M := M.leaveW0 m
      clear m
      replace M : Mem _ _ _ [own 62 2 v47 ((sesT (gapT gap) ((rotT (l.map timT) kk_).take (i_ + 1))).length) ((sesT (gapT gap) ((rotT (l.map timT) kk_).take (i_ + 1))).flatMap spanE), blk b44 (.cells #[(Value.int .i64 ((insN (sesT (gapT gap) ((rotT (l.map timT) kk_).take (i_ + 1))) (⟨x22, x22 + (gapT gap)⟩ : Span)).start)), (Value.int .i64 ((insN (sesT (gapT gap) ((rotT (l.map timT) kk_).take (i_ + 1))) (⟨x22, x22 + (gapT gap)⟩ : Span)).fin))] 65), own 65 2 j37 ((insJ (sesT (gapT gap) ((rotT (l.map timT) kk_).take (i_ + 1))) (⟨x22, x22 + (gapT gap)⟩ : Span)).length) ((insJ (sesT (gapT gap) ((rotT (l.map timT) kk_).take (i_ + 1))) (⟨x22, x22 + (gapT gap)⟩ : Span)).flatMap spanE), own 65 2 a38 ((sesT (gapT gap) ((rotT (l.map timT) kk_).take (i_ + 1))).length) ((sesT (gapT gap) ((rotT (l.map timT) kk_).take (i_ + 1))).flatMap spanE), blk b34 (.cells #[(Value.int .i64 (((findS x22 (sesT (gapT gap) ((rotT (l.map timT) kk_).take (i_ + 1)))).1).start)), (Value.int .i64 (((findS x22 (sesT (gapT gap) ((rotT (l.map timT) kk_).take (i_ + 1)))).1).fin))] 65), blk b30 (.cells #[(Value.int .i64 ((insN (sesT (gapT gap) ((rotT (l.map timT) kk_).take i_)) (⟨x22, x22 + (gapT gap)⟩ : Span)).start)), (Value.int .i64 ((insN (sesT (gapT gap) ((rotT (l.map timT) kk_).take i_)) (⟨x22, x22 + (gapT gap)⟩ : Span)).fin))] 65), own 65 2 j23 ((insJ (sesT (gapT gap) ((rotT (l.map timT) kk_).take i_)) (⟨x22, x22 + (gapT gap)⟩ : Span)).length) ((insJ (sesT (gapT gap) ((rotT (l.map timT) kk_).take i_)) (⟨x22, x22 + (gapT gap)⟩ : Span)).flatMap spanE), own 65 2 a24 ((sesT (gapT gap) ((rotT (l.map timT) kk_).take (i_ + 1))).length) ((sesT (gapT gap) ((rotT (l.map timT) kk_).take (i_ + 1))).flatMap spanE), own 65 2 nv_ ((sesT (gapT gap) ((rotT (l.map timT) kk_).take i_)).length) ((sesT (gapT gap) ((rotT (l.map timT) kk_).take i_)).flatMap spanE), own 65 2 v9 ((sesT (gapT gap) (l.map timT)).length) ((sesT (gapT gap) (l.map timT)).flatMap spanE), own 2 1 v5 ((l.map timT).length) ((l.map timT).flatMap intE)] [SlAt 1 lv l.length (l.flatMap intE)] _ := M
      have sl49 : IsSl v47 := SlAt.isSl (own_slAt (Mem.chunk M 0 rfl).inv)
      have hle50 := SlAt.le' (own_slAt (Mem.chunk M 0 rfl).inv)
      refine WL.callX rfl (law17_same a38 (sesT (gapT gap) ((rotT (l.map timT) kk_).take (i_ + 1))) v47 (sesT (gapT gap) ((rotT (l.map timT) kk_).take (i_ + 1))) (M.enterW0 ⟨((M.wideC0 3 rfl).imp fun _ h => own_slAt h), ((M.wideC0 0 rfl).imp fun _ h => own_slAt h), trivial⟩)) (CallsF.func Try.en33 rfl) ?_
      rintro _ w51 ⟨rfl, m⟩
      replace M := M.leaveW0 m
      clear m
      replace M : Mem _ _ _ [own 62 2 v47 ((sesT (gapT gap) ((rotT (l.map timT) kk_).take (i_ + 1))).length) ((sesT (gapT gap) ((rotT (l.map timT) kk_).take (i_ + 1))).flatMap spanE), blk b44 (.cells #[(Value.int .i64 ((insN (sesT (gapT gap) ((rotT (l.map timT) kk_).take (i_ + 1))) (⟨x22, x22 + (gapT gap)⟩ : Span)).start)), (Value.int .i64 ((insN (sesT (gapT gap) ((rotT (l.map timT) kk_).take (i_ + 1))) (⟨x22, x22 + (gapT gap)⟩ : Span)).fin))] 65), own 65 2 j37 ((insJ (sesT (gapT gap) ((rotT (l.map timT) kk_).take (i_ + 1))) (⟨x22, x22 + (gapT gap)⟩ : Span)).length) ((insJ (sesT (gapT gap) ((rotT (l.map timT) kk_).take (i_ + 1))) (⟨x22, x22 + (gapT gap)⟩ : Span)).flatMap spanE), own 65 2 a38 ((sesT (gapT gap) ((rotT (l.map timT) kk_).take (i_ + 1))).length) ((sesT (gapT gap) ((rotT (l.map timT) kk_).take (i_ + 1))).flatMap spanE), blk b34 (.cells #[(Value.int .i64 (((findS x22 (sesT (gapT gap) ((rotT (l.map timT) kk_).take (i_ + 1)))).1).start)), (Value.int .i64 (((findS x22 (sesT (gapT gap) ((rotT (l.map timT) kk_).take (i_ + 1)))).1).fin))] 65), blk b30 (.cells #[(Value.int .i64 ((insN (sesT (gapT gap) ((rotT (l.map timT) kk_).take i_)) (⟨x22, x22 + (gapT gap)⟩ : Span)).start)), (Value.int .i64 ((insN (sesT (gapT gap) ((rotT (l.map timT) kk_).take i_)) (⟨x22, x22 + (gapT gap)⟩ : Span)).fin))] 65), own 65 2 j23 ((insJ (sesT (gapT gap) ((rotT (l.map timT) kk_).take i_)) (⟨x22, x22 + (gapT gap)⟩ : Span)).length) ((insJ (sesT (gapT gap) ((rotT (l.map timT) kk_).take i_)) (⟨x22, x22 + (gapT gap)⟩ : Span)).flatMap spanE), own 65 2 a24 ((sesT (gapT gap) ((rotT (l.map timT) kk_).take (i_ + 1))).length) ((sesT (gapT gap) ((rotT (l.map timT) kk_).take (i_ + 1))).flatMap spanE), own 65 2 nv_ ((sesT (gapT gap) ((rotT (l.map timT) kk_).take i_)).length) ((sesT (gapT gap) ((rotT (l.map timT) kk_).take i_)).flatMap spanE), own 65 2 v9 ((sesT (gapT gap) (l.map timT)).length) ((sesT (gapT gap) (l.map timT)).flatMap spanE), own 2 1 v5 ((l.map timT).length) ((l.map timT).flatMap intE)] [SlAt 1 lv l.length (l.flatMap intE)] _ := M
      rw [(show (decide ((sesT (gapT gap) ((rotT (l.map timT) kk_).take (i_ + 1))) = (sesT (gapT gap) ((rotT (l.map timT) kk_).take (i_ + 1))))) = true by simp)]
      refine WL.step (v := (Value.bool false)) rfl (Step.pure (by kernel_rfl)) ?_
      refine WL.step (v := (Value.bool false)) rfl (Step.pick (t := false) rfl rfl) ?_
      refine WL.nil ?_
      refine W.cond (t := false) rfl (fun h => by cases h) (fun _ => ?_)
      refine W.skip ?_
      refine W.region rfl ?_
      refine WL.step (v := (Value.int .i64 ↑i_)) rfl (Step.move rfl) ?_
      refine WL.step (v := (Value.int .i64 (↑i_ + 1))) rfl (Step.add rfl rfl (wrap_i64 (by omega))) ?_
      refine WL.step (v := (Value.int .i64 (↑i_ + 1))) rfl (Step.assign rfl) ?_
      refine WL.nil ?_
      replace M := M.sel (L' := [own 65 2 a24 ((sesT (gapT gap) ((rotT (l.map timT) kk_).take (i_ + 1))).length) ((sesT (gapT gap) ((rotT (l.map timT) kk_).take (i_ + 1))).flatMap spanE), own 65 2 v9 ((sesT (gapT gap) (l.map timT)).length) ((sesT (gapT gap) (l.map timT)).flatMap spanE), own 2 1 v5 ((l.map timT).length) ((l.map timT).flatMap intE)]) [7, 9, 10] rfl (by decide)
      exact ⟨_, (by omega), i_ + 1, _, ⟨(by omega), rfl⟩, ⟨rfl, rfl, rfl, rfl, rfl, rfl, rfl, rfl⟩, M⟩
    ·
      have h18p := of_decide_eq_false h18
      refine W.exit ?_
      refine thn_exit ?_
      refine thn_exit ?_
      refine inBlk_hit ?_
      refine W.seq' ?_
      refine W.seq' ?_
      refine W.region rfl ?_
      refine WL.step (v := nv_) rfl (Step.move rfl) ?_
      refine WL.step (v := v9) rfl (Step.move rfl) ?_
      refine WL.callX rfl (law17_refs v9 (sesT (gapT gap) (l.map timT)) (by first | omega | assumption | decide | (simp only [List.length_nil, List.length_cons, List.length_take, List.length_drop]; omega)) (M.enterW0 ⟨((M.wideC0 1 rfl).imp fun _ h => own_slAt h), trivial⟩)) (CallsF.func Try.en30 rfl) ?_
      rintro v52 w53 ⟨_, rfl, m⟩
      replace M := M.leaveW0 m
      clear m
      replace M : Mem _ _ _ [own 62 2 v52 ((sesT (gapT gap) (l.map timT)).length) ((sesT (gapT gap) (l.map timT)).flatMap spanE), own 65 2 nv_ ((sesT (gapT gap) ((rotT (l.map timT) k_).take i_)).length) ((sesT (gapT gap) ((rotT (l.map timT) k_).take i_)).flatMap spanE), own 65 2 v9 ((sesT (gapT gap) (l.map timT)).length) ((sesT (gapT gap) (l.map timT)).flatMap spanE), own 2 1 v5 ((l.map timT).length) ((l.map timT).flatMap intE)] [SlAt 1 lv l.length (l.flatMap intE)] _ := M
      have sl54 : IsSl v52 := SlAt.isSl (own_slAt (Mem.chunk M 0 rfl).inv)
      have hle55 := SlAt.le' (own_slAt (Mem.chunk M 0 rfl).inv)
      refine WL.callX rfl (law17_same nv_ (sesT (gapT gap) ((rotT (l.map timT) k_).take i_)) v52 (sesT (gapT gap) (l.map timT)) (M.enterW0 ⟨((M.wideC0 1 rfl).imp fun _ h => own_slAt h), ((M.wideC0 0 rfl).imp fun _ h => own_slAt h), trivial⟩)) (CallsF.func Try.en33 rfl) ?_
      rintro _ w56 ⟨rfl, m⟩
      replace M := M.leaveW0 m
      clear m
      replace M : Mem _ _ _ [own 62 2 v52 ((sesT (gapT gap) (l.map timT)).length) ((sesT (gapT gap) (l.map timT)).flatMap spanE), own 65 2 nv_ ((sesT (gapT gap) ((rotT (l.map timT) k_).take i_)).length) ((sesT (gapT gap) ((rotT (l.map timT) k_).take i_)).flatMap spanE), own 65 2 v9 ((sesT (gapT gap) (l.map timT)).length) ((sesT (gapT gap) (l.map timT)).flatMap spanE), own 2 1 v5 ((l.map timT).length) ((l.map timT).flatMap intE)] [SlAt 1 lv l.length (l.flatMap intE)] _ := M
      rw [(show (decide ((sesT (gapT gap) ((rotT (l.map timT) k_).take i_)) = (sesT (gapT gap) (l.map timT)))) = true by rw [rot_end (gapT_in gap).1 (by omega)]; simp)]
      refine WL.step (v := (Value.bool false)) rfl (Step.pure (by kernel_rfl)) ?_
      refine WL.nil ?_
      refine W.cond (t := false) rfl (fun h => by cases h) (fun _ => ?_)
      refine W.skip ?_
      refine W.seq' ?_
      refine W.seq' ?_
      refine W.region rfl ?_
      refine WL.step (v := (Value.int .i64 0)) rfl (Step.assign rfl) ?_
      refine WL.nil ?_
      refine W.block ?_
      refine W.loop (fun kk ρ w' => ∃ (b_ : Nat), ((b_ ≤ (l.map timT).length) ∧ kk = (l.map timT).length - b_) ∧ ρ.has [(0, (Value.int .i64 (gapT gap))), (7, v5), (8, v9), (23, (Value.int .i64 ↑b_))] ∧ Mem G (fun _ => False) w [own 62 2 v52 ((sesT (gapT gap) (l.map timT)).length) ((sesT (gapT gap) (l.map timT)).flatMap spanE), own 65 2 nv_ ((sesT (gapT gap) ((rotT (l.map timT) k_).take i_)).length) ((sesT (gapT gap) ((rotT (l.map timT) k_).take i_)).flatMap spanE), own 65 2 v9 ((sesT (gapT gap) (l.map timT)).length) ((sesT (gapT gap) (l.map timT)).flatMap spanE), own 2 1 v5 ((l.map timT).length) ((l.map timT).flatMap intE)] [SlAt 1 lv l.length (l.flatMap intE)]  w') _ ⟨0, ⟨(Nat.zero_le _), rfl⟩, ⟨rfl, rfl, rfl, rfl, rfl, rfl⟩, M⟩ ?_
      rintro _ ρ58 w57 ⟨b_, ⟨hi59, rfl⟩, hρ, M⟩
      obtain ⟨ρ58, rfl⟩ := hρ.know
      clear hρ
      refine W.seq' ?_
      refine W.seq' ?_
      refine W.region rfl ?_
      refine WL.step (v := (Value.int .i64 ↑b_)) rfl (Step.move rfl) ?_
      refine WL.step (v := v5) rfl (Step.move rfl) ?_
      refine WL.step (v := (Value.int .i64 (↑((l.map timT).length)))) rfl (Step.lenSl Try.un70 rfl (own_slAt (M.chunk 3 rfl).inv)) ?_
      refine WL.step (v := (Value.bool (decide ((↑b_ : Int) < (↑((l.map timT).length) : Int))))) rfl (Step.pure (by kernel_rfl)) ?_
      refine WL.nil ?_
      refine W.cond (t := decide ((↑b_ : Int) < (↑((l.map timT).length) : Int))) rfl (fun h60 => ?_) (fun h60 => ?_)
      ·
        have h60p := of_decide_eq_true h60
        refine W.skip ?_
        refine W.seq' ?_
        refine W.block ?_
        refine W.seq' ?_
        refine W.region rfl ?_
        refine WL.step (v := (Value.int .i64 0)) rfl (Step.assign rfl) ?_
        refine WL.nil ?_
        refine W.seq' ?_
        refine W.seq' ?_
        refine W.region rfl ?_
        refine WL.step (v := (Value.int .i64 0)) rfl (Step.assign rfl) ?_
        refine WL.nil ?_
        refine W.block ?_
        obtain ⟨y_, hy_⟩ := elem_of_lt (xs := l.map timT) (i := b_) (by omega)
        obtain ⟨_, _⟩ := timT_all l _ (List.mem_of_getElem? hy_)
        refine W.loop (fun kk ρ w' => ∃ (m_ : Nat) (c_ : Nat), ((m_ ≤ (sesT (gapT gap) (l.map timT)).length) ∧ (c_ = cntT (gapT gap) y_ (sesT (gapT gap) (l.map timT)) m_) ∧ kk = (sesT (gapT gap) (l.map timT)).length - m_) ∧ ρ.has [(0, (Value.int .i64 (gapT gap))), (7, v5), (8, v9), (23, (Value.int .i64 ↑b_)), (24, (Value.int .i64 ↑c_)), (25, (Value.int .i64 ↑m_)), (134, (Value.int .i64 ↑b_)), (135, v5), (136, (Value.int .i64 (↑((l.map timT).length)))), (137, (Value.bool (decide ((↑b_ : Int) < (↑((l.map timT).length) : Int)))))] ∧ Mem G (fun _ => False) w [own 62 2 v52 ((sesT (gapT gap) (l.map timT)).length) ((sesT (gapT gap) (l.map timT)).flatMap spanE), own 65 2 nv_ ((sesT (gapT gap) ((rotT (l.map timT) k_).take i_)).length) ((sesT (gapT gap) ((rotT (l.map timT) k_).take i_)).flatMap spanE), own 65 2 v9 ((sesT (gapT gap) (l.map timT)).length) ((sesT (gapT gap) (l.map timT)).flatMap spanE), own 2 1 v5 ((l.map timT).length) ((l.map timT).flatMap intE)] [SlAt 1 lv l.length (l.flatMap intE)]  w') _ ⟨0, 0, ⟨(Nat.zero_le _), (by simp [cntT]), rfl⟩, ⟨rfl, rfl, rfl, rfl, rfl, rfl, rfl, rfl, rfl, rfl, rfl, rfl⟩, M⟩ ?_
        rintro _ ρ62 w61 ⟨m_, c_, ⟨hi63, hi64, rfl⟩, hρ, M⟩
        obtain ⟨ρ62, rfl⟩ := hρ.know
        clear hρ
        have hcl_ := cntT_le (gapT gap) y_ (sesT (gapT gap) (l.map timT)) m_
        refine W.seq' ?_
        refine W.seq' ?_
        refine W.region rfl ?_
        refine WL.step (v := (Value.int .i64 ↑m_)) rfl (Step.move rfl) ?_
        refine WL.step (v := v9) rfl (Step.move rfl) ?_
        refine WL.step (v := (Value.int .i64 (↑((sesT (gapT gap) (l.map timT)).length)))) rfl (Step.lenSl Try.un58 rfl (own_slAt (M.chunk 2 rfl).inv)) ?_
        refine WL.step (v := (Value.bool (decide ((↑m_ : Int) < (↑((sesT (gapT gap) (l.map timT)).length) : Int))))) rfl (Step.pure (by kernel_rfl)) ?_
        refine WL.nil ?_
        refine W.cond (t := decide ((↑m_ : Int) < (↑((sesT (gapT gap) (l.map timT)).length) : Int))) rfl (fun h65 => ?_) (fun h65 => ?_)
        ·
          have h65p := of_decide_eq_true h65
          refine W.skip ?_
          refine W.seq' ?_
          refine W.block ?_
          refine W.seq' ?_
          obtain ⟨cap67, hb66⟩ := SlAt.base (own_slAt (M.chunk 2 rfl).inv) (by omega)
          obtain ⟨x68, hx68⟩ := elem_of_lt (xs := sesT (gapT gap) (l.map timT)) (i := m_) (by omega)
          obtain ⟨cap70, hb69⟩ := SlAt.base (own_slAt (M.chunk 3 rfl).inv) (by omega)
          obtain ⟨_, _⟩ := timT_all l _ (List.mem_of_getElem? hy_)
          rcases Bool.eq_false_or_eq_true (decide ((x68.start : Int) ≤ (y_ : Int))) with h71 | h71
          ·
            have h71p := of_decide_eq_true h71
            refine W.drawn M [0, 1, 2, 3, 4, 5, 6, 7, 8, 9, 10, 11, 12, 13, 14, 15, 16, 17, 18, 19, 20, 21, 22, 23] [] [] [own 62 2 v52 ((sesT (gapT gap) (l.map timT)).length) ((sesT (gapT gap) (l.map timT)).flatMap spanE), own 65 2 nv_ ((sesT (gapT gap) ((rotT (l.map timT) k_).take i_)).length) ((sesT (gapT gap) ((rotT (l.map timT) k_).take i_)).flatMap spanE), own 65 2 v9 ((sesT (gapT gap) (l.map timT)).length) ((sesT (gapT gap) (l.map timT)).flatMap spanE), own 2 1 v5 ((l.map timT).length) ((l.map timT).flatMap intE)] [SlAt 1 lv l.length (l.flatMap intE)] (List.Sublist.cons_cons _ (List.Sublist.cons_cons _ (List.Sublist.cons_cons _ (List.Sublist.cons_cons _ List.Sublist.slnil)))) (fun _ h => h) Try.mixed (by kernel_rfl) ?_
            refine TW.pure (v := v9) rfl (by decide) (by decide) rfl (fun w => (Step.move rfl)) ?_
            refine TW.pure (v := (Value.int .i64 ↑m_)) rfl (by decide) (by decide) rfl (fun w => (Step.move rfl)) ?_
            refine TW.pure (v := (Value.pointer (some ⟨(sBlk v9), sOff v9 + m_ * 2, none⟩))) rfl (by decide) (by decide) rfl (fun w => (Step.indexAddr (i := m_) (Try.un58).run Try.el65.sized rfl rfl (by omega) hb66 (by omega))) ?_
            refine TW.pure (v := (Value.pointer (some ⟨(sBlk v9), sOff v9 + m_ * 2, none⟩))) rfl (by decide) (by decide) rfl (fun w => (Step.pure (by kernel_rfl))) ?_
            refine TW.read (v := (Value.int .i64 x68.start)) rfl (by decide) (by decide) rfl (fun A w M => (Step.loadE (k := 0) Try.sc2 (flat_ec (own_slAt (M.chunk 3 rfl).inv) hx68 spanE_len) (by decide) rfl rfl)) ?_
            refine TW.pure (v := v5) rfl (by decide) (by decide) rfl (fun w => (Step.move rfl)) ?_
            refine TW.pure (v := (Value.int .i64 ↑b_)) rfl (by decide) (by decide) rfl (fun w => (Step.move rfl)) ?_
            refine TW.pure (v := (Value.pointer (some ⟨(sBlk v5), sOff v5 + b_ * 1, none⟩))) rfl (by decide) (by decide) rfl (fun w => (Step.indexAddr (i := b_) (Try.un70).run Try.el2.sized rfl rfl (by omega) hb69 (by omega))) ?_
            refine TW.read (v := (Value.int .i64 y_)) rfl (by decide) (by decide) rfl (fun A w M => (Step.loadE (k := 0) Try.sc2 (flat_ec (own_slAt (M.chunk 4 rfl).inv) hy_ intE_len) (by decide) rfl rfl)) ?_
            refine TW.pure (v := (Value.bool true)) rfl (by decide) (by decide) rfl (fun w => (Step.cast (congrArg Value.bool h71) (Step.pure (by kernel_rfl)))) ?_
            refine TW.pure (v := (Value.bool true)) rfl (by decide) (by decide) rfl (fun w => (Step.move rfl)) ?_
            refine TW.pure (v := v5) rfl (by decide) (by decide) rfl (fun w => (Step.move rfl)) ?_
            refine TW.pure (v := (Value.int .i64 ↑b_)) rfl (by decide) (by decide) rfl (fun w => (Step.move rfl)) ?_
            refine TW.pure (v := (Value.pointer (some ⟨(sBlk v5), sOff v5 + b_ * 1, none⟩))) rfl (by decide) (by decide) rfl (fun w => (Step.indexAddr (i := b_) (Try.un70).run Try.el2.sized rfl rfl (by omega) hb69 (by omega))) ?_
            refine TW.read (v := (Value.int .i64 y_)) rfl (by decide) (by decide) rfl (fun A w M => (Step.loadE (k := 0) Try.sc2 (flat_ec (own_slAt (M.chunk 4 rfl).inv) hy_ intE_len) (by decide) rfl rfl)) ?_
            refine TW.pure (v := (Value.int .i64 (gapT gap))) rfl (by decide) (by decide) rfl (fun w => (Step.move rfl)) ?_
            refine TW.pure (v := (Value.int .i64 (y_ + (gapT gap)))) rfl (by decide) (by decide) rfl (fun w => (Step.add rfl rfl (wrap_i64 (by omega)))) ?_
            refine TW.pure (v := v9) rfl (by decide) (by decide) rfl (fun w => (Step.move rfl)) ?_
            refine TW.pure (v := (Value.int .i64 ↑m_)) rfl (by decide) (by decide) rfl (fun w => (Step.move rfl)) ?_
            refine TW.pure (v := (Value.pointer (some ⟨(sBlk v9), sOff v9 + m_ * 2, none⟩))) rfl (by decide) (by decide) rfl (fun w => (Step.indexAddr (i := m_) (Try.un58).run Try.el65.sized rfl rfl (by omega) hb66 (by omega))) ?_
            refine TW.pure (v := (Value.pointer (some ⟨(sBlk v9), sOff v9 + m_ * 2 + 1, none⟩))) rfl (by decide) (by decide) rfl (fun w => (Step.pure (by kernel_rfl))) ?_
            refine TW.read (v := (Value.int .i64 x68.fin)) rfl (by decide) (by decide) rfl (fun A w M => (Step.loadE (k := 1) Try.sc2 (flat_ec (own_slAt (M.chunk 3 rfl).inv) hx68 spanE_len) (by decide) rfl rfl)) ?_
            refine TW.pure (v := (Value.bool (decide ((y_ + (gapT gap) : Int) ≤ (x68.fin : Int))))) rfl (by decide) (by decide) rfl (fun w => (Step.pure (by kernel_rfl))) ?_
            refine TW.pure (v := (Value.bool (decide ((y_ + (gapT gap) : Int) ≤ (x68.fin : Int))))) rfl (by decide) (by decide) rfl (fun w => (Step.pick (t := true) rfl rfl)) ?_
            refine TW.done (fun w72 M => ?_)
            refine W.cond (t := decide ((y_ + (gapT gap) : Int) ≤ (x68.fin : Int))) rfl (fun h73 => ?_) (fun h73 => ?_)
            ·
              have h73p := of_decide_eq_true h73
              refine W.region rfl ?_
              refine WL.step (v := (Value.int .i64 ↑c_)) rfl (Step.move rfl) ?_
              refine WL.step (v := (Value.int .i64 (↑c_ + 1))) rfl (Step.add rfl rfl (wrap_i64 (by omega))) ?_
              refine WL.step (v := (Value.int .i64 (↑c_ + 1))) rfl (Step.assign rfl) ?_
              refine WL.nil ?_
              refine W.region rfl ?_
              refine WL.step (v := (Value.int .i64 ↑m_)) rfl (Step.move rfl) ?_
              refine WL.step (v := (Value.int .i64 (↑m_ + 1))) rfl (Step.add rfl rfl (wrap_i64 (by omega))) ?_
              refine WL.step (v := (Value.int .i64 (↑m_ + 1))) rfl (Step.assign rfl) ?_
              refine WL.nil ?_
              exact ⟨_, (by omega), m_ + 1, c_ + 1, ⟨(by omega), (cnt_hit hi64 hx68 (by omega) (by omega)), rfl⟩, ⟨rfl, rfl, rfl, rfl, rfl, rfl, rfl, rfl, rfl, rfl, rfl, rfl⟩, M⟩
            ·
              have h73p := of_decide_eq_false h73
              refine W.skip ?_
              refine W.region rfl ?_
              refine WL.step (v := (Value.int .i64 ↑m_)) rfl (Step.move rfl) ?_
              refine WL.step (v := (Value.int .i64 (↑m_ + 1))) rfl (Step.add rfl rfl (wrap_i64 (by omega))) ?_
              refine WL.step (v := (Value.int .i64 (↑m_ + 1))) rfl (Step.assign rfl) ?_
              refine WL.nil ?_
              exact ⟨_, (by omega), m_ + 1, c_, ⟨(by omega), (cnt_miss hi64 hx68 (by omega)), rfl⟩, ⟨rfl, rfl, rfl, rfl, rfl, rfl, rfl, rfl, rfl, rfl, rfl, rfl⟩, M⟩
          ·
            have h71p := of_decide_eq_false h71
            refine W.drawn M [0, 1, 2, 3, 4, 5, 6, 7, 8, 9, 10, 11, 12, 13, 14, 15, 16, 17, 18, 19, 20, 21, 22, 23] [] [] [own 62 2 v52 ((sesT (gapT gap) (l.map timT)).length) ((sesT (gapT gap) (l.map timT)).flatMap spanE), own 65 2 nv_ ((sesT (gapT gap) ((rotT (l.map timT) k_).take i_)).length) ((sesT (gapT gap) ((rotT (l.map timT) k_).take i_)).flatMap spanE), own 65 2 v9 ((sesT (gapT gap) (l.map timT)).length) ((sesT (gapT gap) (l.map timT)).flatMap spanE), own 2 1 v5 ((l.map timT).length) ((l.map timT).flatMap intE)] [SlAt 1 lv l.length (l.flatMap intE)] (List.Sublist.cons_cons _ (List.Sublist.cons_cons _ (List.Sublist.cons_cons _ (List.Sublist.cons_cons _ List.Sublist.slnil)))) (fun _ h => h) Try.mixed (by kernel_rfl) ?_
            refine TW.pure (v := v9) rfl (by decide) (by decide) rfl (fun w => (Step.move rfl)) ?_
            refine TW.pure (v := (Value.int .i64 ↑m_)) rfl (by decide) (by decide) rfl (fun w => (Step.move rfl)) ?_
            refine TW.pure (v := (Value.pointer (some ⟨(sBlk v9), sOff v9 + m_ * 2, none⟩))) rfl (by decide) (by decide) rfl (fun w => (Step.indexAddr (i := m_) (Try.un58).run Try.el65.sized rfl rfl (by omega) hb66 (by omega))) ?_
            refine TW.pure (v := (Value.pointer (some ⟨(sBlk v9), sOff v9 + m_ * 2, none⟩))) rfl (by decide) (by decide) rfl (fun w => (Step.pure (by kernel_rfl))) ?_
            refine TW.read (v := (Value.int .i64 x68.start)) rfl (by decide) (by decide) rfl (fun A w M => (Step.loadE (k := 0) Try.sc2 (flat_ec (own_slAt (M.chunk 3 rfl).inv) hx68 spanE_len) (by decide) rfl rfl)) ?_
            refine TW.pure (v := v5) rfl (by decide) (by decide) rfl (fun w => (Step.move rfl)) ?_
            refine TW.pure (v := (Value.int .i64 ↑b_)) rfl (by decide) (by decide) rfl (fun w => (Step.move rfl)) ?_
            refine TW.pure (v := (Value.pointer (some ⟨(sBlk v5), sOff v5 + b_ * 1, none⟩))) rfl (by decide) (by decide) rfl (fun w => (Step.indexAddr (i := b_) (Try.un70).run Try.el2.sized rfl rfl (by omega) hb69 (by omega))) ?_
            refine TW.read (v := (Value.int .i64 y_)) rfl (by decide) (by decide) rfl (fun A w M => (Step.loadE (k := 0) Try.sc2 (flat_ec (own_slAt (M.chunk 4 rfl).inv) hy_ intE_len) (by decide) rfl rfl)) ?_
            refine TW.pure (v := (Value.bool false)) rfl (by decide) (by decide) rfl (fun w => (Step.cast (congrArg Value.bool h71) (Step.pure (by kernel_rfl)))) ?_
            refine TW.pure (v := (Value.bool false)) rfl (by decide) (by decide) rfl (fun w => (Step.move rfl)) ?_
            refine TW.skip rfl rfl ?_
            refine TW.skip rfl rfl ?_
            refine TW.skip rfl rfl ?_
            refine TW.skip rfl rfl ?_
            refine TW.skip rfl rfl ?_
            refine TW.skip rfl rfl ?_
            refine TW.skip rfl rfl ?_
            refine TW.skip rfl rfl ?_
            refine TW.skip rfl rfl ?_
            refine TW.skip rfl rfl ?_
            refine TW.skip rfl rfl ?_
            refine TW.skip rfl rfl ?_
            refine TW.pure (v := (Value.bool false)) rfl (by decide) (by decide) rfl (fun w => (Step.pick (t := false) rfl rfl)) ?_
            refine TW.done (fun w74 M => ?_)
            refine W.cond (t := false) rfl (fun h => by cases h) (fun _ => ?_)
            refine W.skip ?_
            refine W.region rfl ?_
            refine WL.step (v := (Value.int .i64 ↑m_)) rfl (Step.move rfl) ?_
            refine WL.step (v := (Value.int .i64 (↑m_ + 1))) rfl (Step.add rfl rfl (wrap_i64 (by omega))) ?_
            refine WL.step (v := (Value.int .i64 (↑m_ + 1))) rfl (Step.assign rfl) ?_
            refine WL.nil ?_
            exact ⟨_, (by omega), m_ + 1, c_, ⟨(by omega), (cnt_miss hi64 hx68 (by omega)), rfl⟩, ⟨rfl, rfl, rfl, rfl, rfl, rfl, rfl, rfl, rfl, rfl, rfl, rfl⟩, M⟩
        ·
          have h65p := of_decide_eq_false h65
          refine W.exit ?_
          refine thn_exit ?_
          refine thn_exit ?_
          refine inBlk_hit ?_
          refine W.seq' ?_
          refine W.region rfl ?_
          refine WL.step (v := (Value.int .i64 ↑c_)) rfl (Step.move rfl) ?_
          refine WL.step (v := (Value.bool false)) rfl (Step.cast (congrArg Value.bool (show ((↑c_ : Int) != (1 : Int)) = false by rw [hi64, cntT_one (gapT_in gap).1 (List.mem_of_getElem? hy_) (by omega)]; rfl)) (Step.pure (by kernel_rfl))) ?_
          refine WL.nil ?_
          refine W.cond (t := false) rfl (fun h => by cases h) (fun _ => ?_)
          refine W.skip ?_
          refine W.region rfl ?_
          refine WL.step (v := (Value.int .i64 ↑b_)) rfl (Step.move rfl) ?_
          refine WL.step (v := (Value.int .i64 (↑b_ + 1))) rfl (Step.add rfl rfl (wrap_i64 (by omega))) ?_
          refine WL.step (v := (Value.int .i64 (↑b_ + 1))) rfl (Step.assign rfl) ?_
          refine WL.nil ?_
          exact ⟨_, (by omega), b_ + 1, ⟨(by omega), rfl⟩, ⟨rfl, rfl, rfl, rfl, rfl, rfl⟩, M⟩
      ·
        have h60p := of_decide_eq_false h60
        refine W.exit ?_
        refine thn_exit ?_
        refine thn_exit ?_
        refine inBlk_hit ?_
        refine W.seq' ?_
        refine W.seq' ?_
        refine W.region rfl ?_
        refine WL.step (v := (Value.int .i64 0)) rfl (Step.assign rfl) ?_
        refine WL.nil ?_
        refine W.block ?_
        refine W.loop (fun kk ρ w' => ∃ (a_ : Nat), ((a_ ≤ (sesT (gapT gap) (l.map timT)).length) ∧ kk = (sesT (gapT gap) (l.map timT)).length - a_) ∧ ρ.has [(0, (Value.int .i64 (gapT gap))), (7, v5), (8, v9), (26, (Value.int .i64 ↑a_))] ∧ Mem G (fun _ => False) w [own 62 2 v52 ((sesT (gapT gap) (l.map timT)).length) ((sesT (gapT gap) (l.map timT)).flatMap spanE), own 65 2 nv_ ((sesT (gapT gap) ((rotT (l.map timT) k_).take i_)).length) ((sesT (gapT gap) ((rotT (l.map timT) k_).take i_)).flatMap spanE), own 65 2 v9 ((sesT (gapT gap) (l.map timT)).length) ((sesT (gapT gap) (l.map timT)).flatMap spanE), own 2 1 v5 ((l.map timT).length) ((l.map timT).flatMap intE)] [SlAt 1 lv l.length (l.flatMap intE)]  w') _ ⟨0, ⟨(Nat.zero_le _), rfl⟩, ⟨rfl, rfl, rfl, rfl, rfl, rfl⟩, M⟩ ?_
        rintro _ ρ76 w75 ⟨a_, ⟨hi77, rfl⟩, hρ, M⟩
        obtain ⟨ρ76, rfl⟩ := hρ.know
        clear hρ
        refine W.seq' ?_
        refine W.seq' ?_
        refine W.region rfl ?_
        refine WL.step (v := (Value.int .i64 ↑a_)) rfl (Step.move rfl) ?_
        refine WL.step (v := v9) rfl (Step.move rfl) ?_
        refine WL.step (v := (Value.int .i64 (↑((sesT (gapT gap) (l.map timT)).length)))) rfl (Step.lenSl Try.un58 rfl (own_slAt (M.chunk 2 rfl).inv)) ?_
        refine WL.step (v := (Value.bool (decide ((↑a_ : Int) < (↑((sesT (gapT gap) (l.map timT)).length) : Int))))) rfl (Step.pure (by kernel_rfl)) ?_
        refine WL.nil ?_
        refine W.cond (t := decide ((↑a_ : Int) < (↑((sesT (gapT gap) (l.map timT)).length) : Int))) rfl (fun h78 => ?_) (fun h78 => ?_)
        ·
          have h78p := of_decide_eq_true h78
          refine W.skip ?_
          refine W.seq' ?_
          refine W.block ?_
          refine W.seq' ?_
          refine W.region rfl ?_
          refine WL.step (v := (Value.bool false)) rfl (Step.assign rfl) ?_
          refine WL.step (v := (Value.bool false)) rfl (Step.assign rfl) ?_
          refine WL.nil ?_
          refine W.seq' ?_
          refine W.seq' ?_
          refine W.region rfl ?_
          refine WL.step (v := (Value.int .i64 0)) rfl (Step.assign rfl) ?_
          refine WL.nil ?_
          refine W.block ?_
          obtain ⟨w_, hw_⟩ := elem_of_lt (xs := sesT (gapT gap) (l.map timT)) (i := a_) (by omega)
          refine W.loop (fun kk ρ w' => ∃ (n_ : Nat) (s_ : Bool) (e_ : Bool), ((n_ ≤ (l.map timT).length) ∧ (∀ j t, j < n_ → (l.map timT)[j]? = some t → t = w_.start → s_ = true) ∧ (∀ j t, j < n_ → (l.map timT)[j]? = some t → t + gapT gap = w_.fin → e_ = true) ∧ kk = (l.map timT).length - n_) ∧ ρ.has [(0, (Value.int .i64 (gapT gap))), (7, v5), (8, v9), (26, (Value.int .i64 ↑a_)), (27, (Value.bool s_)), (28, (Value.bool e_)), (29, (Value.int .i64 ↑n_)), (174, (Value.int .i64 ↑a_)), (175, v9), (176, (Value.int .i64 (↑((sesT (gapT gap) (l.map timT)).length)))), (177, (Value.bool (decide ((↑a_ : Int) < (↑((sesT (gapT gap) (l.map timT)).length) : Int)))))] ∧ Mem G (fun _ => False) w [own 62 2 v52 ((sesT (gapT gap) (l.map timT)).length) ((sesT (gapT gap) (l.map timT)).flatMap spanE), own 65 2 nv_ ((sesT (gapT gap) ((rotT (l.map timT) k_).take i_)).length) ((sesT (gapT gap) ((rotT (l.map timT) k_).take i_)).flatMap spanE), own 65 2 v9 ((sesT (gapT gap) (l.map timT)).length) ((sesT (gapT gap) (l.map timT)).flatMap spanE), own 2 1 v5 ((l.map timT).length) ((l.map timT).flatMap intE)] [SlAt 1 lv l.length (l.flatMap intE)]  w') _ ⟨0, false, false, ⟨(Nat.zero_le _), (fun _ _ h => absurd h (Nat.not_lt_zero _)), (fun _ _ h => absurd h (Nat.not_lt_zero _)), rfl⟩, ⟨rfl, rfl, rfl, rfl, rfl, rfl, rfl, rfl, rfl, rfl, rfl, rfl, rfl⟩, M⟩ ?_
          rintro _ ρ80 w79 ⟨n_, s_, e_, ⟨hi81, hi82, hi83, rfl⟩, hρ, M⟩
          obtain ⟨ρ80, rfl⟩ := hρ.know
          clear hρ
          refine W.seq' ?_
          refine W.seq' ?_
          refine W.region rfl ?_
          refine WL.step (v := (Value.int .i64 ↑n_)) rfl (Step.move rfl) ?_
          refine WL.step (v := v5) rfl (Step.move rfl) ?_
          refine WL.step (v := (Value.int .i64 (↑((l.map timT).length)))) rfl (Step.lenSl Try.un70 rfl (own_slAt (M.chunk 3 rfl).inv)) ?_
          refine WL.step (v := (Value.bool (decide ((↑n_ : Int) < (↑((l.map timT).length) : Int))))) rfl (Step.pure (by kernel_rfl)) ?_
          refine WL.nil ?_
          refine W.cond (t := decide ((↑n_ : Int) < (↑((l.map timT).length) : Int))) rfl (fun h84 => ?_) (fun h84 => ?_)
          ·
            have h84p := of_decide_eq_true h84
            refine W.skip ?_
            refine W.seq' ?_
            refine W.block ?_
            refine W.seq' ?_
            rcases Bool.eq_false_or_eq_true (s_) with h85 | h85
            ·
              refine W.drawn M [0, 1, 2, 3, 4, 5, 6, 7, 8, 9, 10, 11, 12, 13] [] [] [own 62 2 v52 ((sesT (gapT gap) (l.map timT)).length) ((sesT (gapT gap) (l.map timT)).flatMap spanE), own 65 2 nv_ ((sesT (gapT gap) ((rotT (l.map timT) k_).take i_)).length) ((sesT (gapT gap) ((rotT (l.map timT) k_).take i_)).flatMap spanE), own 65 2 v9 ((sesT (gapT gap) (l.map timT)).length) ((sesT (gapT gap) (l.map timT)).flatMap spanE), own 2 1 v5 ((l.map timT).length) ((l.map timT).flatMap intE)] [SlAt 1 lv l.length (l.flatMap intE)] (List.Sublist.cons_cons _ (List.Sublist.cons_cons _ (List.Sublist.cons_cons _ (List.Sublist.cons_cons _ List.Sublist.slnil)))) (fun _ h => h) Try.mixed (by kernel_rfl) ?_
              refine TW.pure (v := (Value.bool true)) rfl (by decide) (by decide) rfl (fun w => (Step.cast (congrArg Value.bool h85) (Step.move rfl))) ?_
              refine TW.pure (v := (Value.bool true)) rfl (by decide) (by decide) rfl (fun w => (Step.move rfl)) ?_
              refine TW.skip rfl rfl ?_
              refine TW.skip rfl rfl ?_
              refine TW.skip rfl rfl ?_
              refine TW.skip rfl rfl ?_
              refine TW.skip rfl rfl ?_
              refine TW.skip rfl rfl ?_
              refine TW.skip rfl rfl ?_
              refine TW.skip rfl rfl ?_
              refine TW.skip rfl rfl ?_
              refine TW.skip rfl rfl ?_
              refine TW.pure (v := (Value.bool true)) rfl (by decide) (by decide) rfl (fun w => (Step.pick (t := true) rfl rfl)) ?_
              refine TW.pure (v := (Value.bool true)) rfl (by decide) (by decide) rfl (fun w => (Step.assign rfl)) ?_
              refine TW.done (fun w86 M => ?_)
              rcases Bool.eq_false_or_eq_true (e_) with h87 | h87
              ·
                refine W.drawn M [0, 1, 2, 3, 4, 5, 6, 7, 8, 9, 10, 11, 12, 13, 14, 15] [] [] [own 62 2 v52 ((sesT (gapT gap) (l.map timT)).length) ((sesT (gapT gap) (l.map timT)).flatMap spanE), own 65 2 nv_ ((sesT (gapT gap) ((rotT (l.map timT) k_).take i_)).length) ((sesT (gapT gap) ((rotT (l.map timT) k_).take i_)).flatMap spanE), own 65 2 v9 ((sesT (gapT gap) (l.map timT)).length) ((sesT (gapT gap) (l.map timT)).flatMap spanE), own 2 1 v5 ((l.map timT).length) ((l.map timT).flatMap intE)] [SlAt 1 lv l.length (l.flatMap intE)] (List.Sublist.cons_cons _ (List.Sublist.cons_cons _ (List.Sublist.cons_cons _ (List.Sublist.cons_cons _ List.Sublist.slnil)))) (fun _ h => h) Try.mixed (by kernel_rfl) ?_
                refine TW.pure (v := (Value.bool true)) rfl (by decide) (by decide) rfl (fun w => (Step.cast (congrArg Value.bool h87) (Step.move rfl))) ?_
                refine TW.pure (v := (Value.bool true)) rfl (by decide) (by decide) rfl (fun w => (Step.move rfl)) ?_
                refine TW.skip rfl rfl ?_
                refine TW.skip rfl rfl ?_
                refine TW.skip rfl rfl ?_
                refine TW.skip rfl rfl ?_
                refine TW.skip rfl rfl ?_
                refine TW.skip rfl rfl ?_
                refine TW.skip rfl rfl ?_
                refine TW.skip rfl rfl ?_
                refine TW.skip rfl rfl ?_
                refine TW.skip rfl rfl ?_
                refine TW.skip rfl rfl ?_
                refine TW.skip rfl rfl ?_
                refine TW.pure (v := (Value.bool true)) rfl (by decide) (by decide) rfl (fun w => (Step.pick (t := true) rfl rfl)) ?_
                refine TW.pure (v := (Value.bool true)) rfl (by decide) (by decide) rfl (fun w => (Step.assign rfl)) ?_
                refine TW.done (fun w88 M => ?_)
                refine W.region rfl ?_
                refine WL.step (v := (Value.int .i64 ↑n_)) rfl (Step.move rfl) ?_
                refine WL.step (v := (Value.int .i64 (↑n_ + 1))) rfl (Step.add rfl rfl (wrap_i64 (by omega))) ?_
                refine WL.step (v := (Value.int .i64 (↑n_ + 1))) rfl (Step.assign rfl) ?_
                refine WL.nil ?_
                exact ⟨_, (by omega), n_ + 1, true, true, ⟨(by omega), (fun _ _ _ _ _ => rfl), (fun _ _ _ _ _ => rfl), rfl⟩, ⟨rfl, rfl, rfl, rfl, rfl, rfl, rfl, rfl, rfl, rfl, rfl, rfl, rfl⟩, M⟩
              ·
                obtain ⟨cap90, hb89⟩ := SlAt.base (own_slAt (M.chunk 3 rfl).inv) (by omega)
                obtain ⟨x91, hx91⟩ := elem_of_lt (xs := l.map timT) (i := n_) (by omega)
                obtain ⟨_, _⟩ := timT_all l _ (List.mem_of_getElem? hx91)
                obtain ⟨cap93, hb92⟩ := SlAt.base (own_slAt (M.chunk 2 rfl).inv) (by omega)
                refine W.drawn M [0, 1, 2, 3, 4, 5, 6, 7, 8, 9, 10, 11, 12, 13, 14, 15] [] [] [own 62 2 v52 ((sesT (gapT gap) (l.map timT)).length) ((sesT (gapT gap) (l.map timT)).flatMap spanE), own 65 2 nv_ ((sesT (gapT gap) ((rotT (l.map timT) k_).take i_)).length) ((sesT (gapT gap) ((rotT (l.map timT) k_).take i_)).flatMap spanE), own 65 2 v9 ((sesT (gapT gap) (l.map timT)).length) ((sesT (gapT gap) (l.map timT)).flatMap spanE), own 2 1 v5 ((l.map timT).length) ((l.map timT).flatMap intE)] [SlAt 1 lv l.length (l.flatMap intE)] (List.Sublist.cons_cons _ (List.Sublist.cons_cons _ (List.Sublist.cons_cons _ (List.Sublist.cons_cons _ List.Sublist.slnil)))) (fun _ h => h) Try.mixed (by kernel_rfl) ?_
                refine TW.pure (v := (Value.bool false)) rfl (by decide) (by decide) rfl (fun w => (Step.cast (congrArg Value.bool h87) (Step.move rfl))) ?_
                refine TW.pure (v := (Value.bool false)) rfl (by decide) (by decide) rfl (fun w => (Step.move rfl)) ?_
                refine TW.pure (v := v5) rfl (by decide) (by decide) rfl (fun w => (Step.move rfl)) ?_
                refine TW.pure (v := (Value.int .i64 ↑n_)) rfl (by decide) (by decide) rfl (fun w => (Step.move rfl)) ?_
                refine TW.pure (v := (Value.pointer (some ⟨(sBlk v5), sOff v5 + n_ * 1, none⟩))) rfl (by decide) (by decide) rfl (fun w => (Step.indexAddr (i := n_) (Try.un70).run Try.el2.sized rfl rfl (by omega) hb89 (by omega))) ?_
                refine TW.read (v := (Value.int .i64 x91)) rfl (by decide) (by decide) rfl (fun A w M => (Step.loadE (k := 0) Try.sc2 (flat_ec (own_slAt (M.chunk 4 rfl).inv) hx91 intE_len) (by decide) rfl rfl)) ?_
                refine TW.pure (v := (Value.int .i64 (gapT gap))) rfl (by decide) (by decide) rfl (fun w => (Step.move rfl)) ?_
                refine TW.pure (v := (Value.int .i64 (x91 + (gapT gap)))) rfl (by decide) (by decide) rfl (fun w => (Step.add rfl rfl (wrap_i64 (by omega)))) ?_
                refine TW.pure (v := v9) rfl (by decide) (by decide) rfl (fun w => (Step.move rfl)) ?_
                refine TW.pure (v := (Value.int .i64 ↑a_)) rfl (by decide) (by decide) rfl (fun w => (Step.move rfl)) ?_
                refine TW.pure (v := (Value.pointer (some ⟨(sBlk v9), sOff v9 + a_ * 2, none⟩))) rfl (by decide) (by decide) rfl (fun w => (Step.indexAddr (i := a_) (Try.un58).run Try.el65.sized rfl rfl (by omega) hb92 (by omega))) ?_
                refine TW.pure (v := (Value.pointer (some ⟨(sBlk v9), sOff v9 + a_ * 2 + 1, none⟩))) rfl (by decide) (by decide) rfl (fun w => (Step.pure (by kernel_rfl))) ?_
                refine TW.read (v := (Value.int .i64 w_.fin)) rfl (by decide) (by decide) rfl (fun A w M => (Step.loadE (k := 1) Try.sc2 (flat_ec (own_slAt (M.chunk 3 rfl).inv) hw_ spanE_len) (by decide) rfl rfl)) ?_
                refine TW.pure (v := (Value.bool ((x91 + (gapT gap) : Int) == (w_.fin : Int)))) rfl (by decide) (by decide) rfl (fun w => (Step.pure (by kernel_rfl))) ?_
                refine TW.pure (v := (Value.bool ((x91 + (gapT gap) : Int) == (w_.fin : Int)))) rfl (by decide) (by decide) rfl (fun w => (Step.pick (t := false) rfl rfl)) ?_
                refine TW.pure (v := (Value.bool ((x91 + (gapT gap) : Int) == (w_.fin : Int)))) rfl (by decide) (by decide) rfl (fun w => (Step.assign rfl)) ?_
                refine TW.done (fun w94 M => ?_)
                refine W.region rfl ?_
                refine WL.step (v := (Value.int .i64 ↑n_)) rfl (Step.move rfl) ?_
                refine WL.step (v := (Value.int .i64 (↑n_ + 1))) rfl (Step.add rfl rfl (wrap_i64 (by omega))) ?_
                refine WL.step (v := (Value.int .i64 (↑n_ + 1))) rfl (Step.assign rfl) ?_
                refine WL.nil ?_
                exact ⟨_, (by omega), n_ + 1, true, ((x91 + (gapT gap) : Int) == (w_.fin : Int)), ⟨(by omega), (fun _ _ _ _ _ => rfl), (anyB_step hi83 hx91 (fun h => by rw [h87] at h; cases h) (fun h => by simpa using h)), rfl⟩, ⟨rfl, rfl, rfl, rfl, rfl, rfl, rfl, rfl, rfl, rfl, rfl, rfl, rfl⟩, M⟩
            ·
              obtain ⟨cap96, hb95⟩ := SlAt.base (own_slAt (M.chunk 3 rfl).inv) (by omega)
              obtain ⟨x97, hx97⟩ := elem_of_lt (xs := l.map timT) (i := n_) (by omega)
              obtain ⟨_, _⟩ := timT_all l _ (List.mem_of_getElem? hx97)
              obtain ⟨cap99, hb98⟩ := SlAt.base (own_slAt (M.chunk 2 rfl).inv) (by omega)
              refine W.drawn M [0, 1, 2, 3, 4, 5, 6, 7, 8, 9, 10, 11, 12, 13] [] [] [own 62 2 v52 ((sesT (gapT gap) (l.map timT)).length) ((sesT (gapT gap) (l.map timT)).flatMap spanE), own 65 2 nv_ ((sesT (gapT gap) ((rotT (l.map timT) k_).take i_)).length) ((sesT (gapT gap) ((rotT (l.map timT) k_).take i_)).flatMap spanE), own 65 2 v9 ((sesT (gapT gap) (l.map timT)).length) ((sesT (gapT gap) (l.map timT)).flatMap spanE), own 2 1 v5 ((l.map timT).length) ((l.map timT).flatMap intE)] [SlAt 1 lv l.length (l.flatMap intE)] (List.Sublist.cons_cons _ (List.Sublist.cons_cons _ (List.Sublist.cons_cons _ (List.Sublist.cons_cons _ List.Sublist.slnil)))) (fun _ h => h) Try.mixed (by kernel_rfl) ?_
              refine TW.pure (v := (Value.bool false)) rfl (by decide) (by decide) rfl (fun w => (Step.cast (congrArg Value.bool h85) (Step.move rfl))) ?_
              refine TW.pure (v := (Value.bool false)) rfl (by decide) (by decide) rfl (fun w => (Step.move rfl)) ?_
              refine TW.pure (v := v5) rfl (by decide) (by decide) rfl (fun w => (Step.move rfl)) ?_
              refine TW.pure (v := (Value.int .i64 ↑n_)) rfl (by decide) (by decide) rfl (fun w => (Step.move rfl)) ?_
              refine TW.pure (v := (Value.pointer (some ⟨(sBlk v5), sOff v5 + n_ * 1, none⟩))) rfl (by decide) (by decide) rfl (fun w => (Step.indexAddr (i := n_) (Try.un70).run Try.el2.sized rfl rfl (by omega) hb95 (by omega))) ?_
              refine TW.read (v := (Value.int .i64 x97)) rfl (by decide) (by decide) rfl (fun A w M => (Step.loadE (k := 0) Try.sc2 (flat_ec (own_slAt (M.chunk 4 rfl).inv) hx97 intE_len) (by decide) rfl rfl)) ?_
              refine TW.pure (v := v9) rfl (by decide) (by decide) rfl (fun w => (Step.move rfl)) ?_
              refine TW.pure (v := (Value.int .i64 ↑a_)) rfl (by decide) (by decide) rfl (fun w => (Step.move rfl)) ?_
              refine TW.pure (v := (Value.pointer (some ⟨(sBlk v9), sOff v9 + a_ * 2, none⟩))) rfl (by decide) (by decide) rfl (fun w => (Step.indexAddr (i := a_) (Try.un58).run Try.el65.sized rfl rfl (by omega) hb98 (by omega))) ?_
              refine TW.pure (v := (Value.pointer (some ⟨(sBlk v9), sOff v9 + a_ * 2, none⟩))) rfl (by decide) (by decide) rfl (fun w => (Step.pure (by kernel_rfl))) ?_
              refine TW.read (v := (Value.int .i64 w_.start)) rfl (by decide) (by decide) rfl (fun A w M => (Step.loadE (k := 0) Try.sc2 (flat_ec (own_slAt (M.chunk 3 rfl).inv) hw_ spanE_len) (by decide) rfl rfl)) ?_
              refine TW.pure (v := (Value.bool ((x97 : Int) == (w_.start : Int)))) rfl (by decide) (by decide) rfl (fun w => (Step.pure (by kernel_rfl))) ?_
              refine TW.pure (v := (Value.bool ((x97 : Int) == (w_.start : Int)))) rfl (by decide) (by decide) rfl (fun w => (Step.pick (t := false) rfl rfl)) ?_
              refine TW.pure (v := (Value.bool ((x97 : Int) == (w_.start : Int)))) rfl (by decide) (by decide) rfl (fun w => (Step.assign rfl)) ?_
              refine TW.done (fun w100 M => ?_)
              rcases Bool.eq_false_or_eq_true (e_) with h101 | h101
              ·
                refine W.drawn M [0, 1, 2, 3, 4, 5, 6, 7, 8, 9, 10, 11, 12, 13, 14, 15] [] [] [own 62 2 v52 ((sesT (gapT gap) (l.map timT)).length) ((sesT (gapT gap) (l.map timT)).flatMap spanE), own 65 2 nv_ ((sesT (gapT gap) ((rotT (l.map timT) k_).take i_)).length) ((sesT (gapT gap) ((rotT (l.map timT) k_).take i_)).flatMap spanE), own 65 2 v9 ((sesT (gapT gap) (l.map timT)).length) ((sesT (gapT gap) (l.map timT)).flatMap spanE), own 2 1 v5 ((l.map timT).length) ((l.map timT).flatMap intE)] [SlAt 1 lv l.length (l.flatMap intE)] (List.Sublist.cons_cons _ (List.Sublist.cons_cons _ (List.Sublist.cons_cons _ (List.Sublist.cons_cons _ List.Sublist.slnil)))) (fun _ h => h) Try.mixed (by kernel_rfl) ?_
                refine TW.pure (v := (Value.bool true)) rfl (by decide) (by decide) rfl (fun w => (Step.cast (congrArg Value.bool h101) (Step.move rfl))) ?_
                refine TW.pure (v := (Value.bool true)) rfl (by decide) (by decide) rfl (fun w => (Step.move rfl)) ?_
                refine TW.skip rfl rfl ?_
                refine TW.skip rfl rfl ?_
                refine TW.skip rfl rfl ?_
                refine TW.skip rfl rfl ?_
                refine TW.skip rfl rfl ?_
                refine TW.skip rfl rfl ?_
                refine TW.skip rfl rfl ?_
                refine TW.skip rfl rfl ?_
                refine TW.skip rfl rfl ?_
                refine TW.skip rfl rfl ?_
                refine TW.skip rfl rfl ?_
                refine TW.skip rfl rfl ?_
                refine TW.pure (v := (Value.bool true)) rfl (by decide) (by decide) rfl (fun w => (Step.pick (t := true) rfl rfl)) ?_
                refine TW.pure (v := (Value.bool true)) rfl (by decide) (by decide) rfl (fun w => (Step.assign rfl)) ?_
                refine TW.done (fun w102 M => ?_)
                refine W.region rfl ?_
                refine WL.step (v := (Value.int .i64 ↑n_)) rfl (Step.move rfl) ?_
                refine WL.step (v := (Value.int .i64 (↑n_ + 1))) rfl (Step.add rfl rfl (wrap_i64 (by omega))) ?_
                refine WL.step (v := (Value.int .i64 (↑n_ + 1))) rfl (Step.assign rfl) ?_
                refine WL.nil ?_
                exact ⟨_, (by omega), n_ + 1, ((x97 : Int) == (w_.start : Int)), true, ⟨(by omega), (anyB_step hi82 hx97 (fun h => by rw [h85] at h; cases h) (fun h => by simpa using h)), (fun _ _ _ _ _ => rfl), rfl⟩, ⟨rfl, rfl, rfl, rfl, rfl, rfl, rfl, rfl, rfl, rfl, rfl, rfl, rfl⟩, M⟩
              ·
                refine W.drawn M [0, 1, 2, 3, 4, 5, 6, 7, 8, 9, 10, 11, 12, 13, 14, 15] [] [] [own 62 2 v52 ((sesT (gapT gap) (l.map timT)).length) ((sesT (gapT gap) (l.map timT)).flatMap spanE), own 65 2 nv_ ((sesT (gapT gap) ((rotT (l.map timT) k_).take i_)).length) ((sesT (gapT gap) ((rotT (l.map timT) k_).take i_)).flatMap spanE), own 65 2 v9 ((sesT (gapT gap) (l.map timT)).length) ((sesT (gapT gap) (l.map timT)).flatMap spanE), own 2 1 v5 ((l.map timT).length) ((l.map timT).flatMap intE)] [SlAt 1 lv l.length (l.flatMap intE)] (List.Sublist.cons_cons _ (List.Sublist.cons_cons _ (List.Sublist.cons_cons _ (List.Sublist.cons_cons _ List.Sublist.slnil)))) (fun _ h => h) Try.mixed (by kernel_rfl) ?_
                refine TW.pure (v := (Value.bool false)) rfl (by decide) (by decide) rfl (fun w => (Step.cast (congrArg Value.bool h101) (Step.move rfl))) ?_
                refine TW.pure (v := (Value.bool false)) rfl (by decide) (by decide) rfl (fun w => (Step.move rfl)) ?_
                refine TW.pure (v := v5) rfl (by decide) (by decide) rfl (fun w => (Step.move rfl)) ?_
                refine TW.pure (v := (Value.int .i64 ↑n_)) rfl (by decide) (by decide) rfl (fun w => (Step.move rfl)) ?_
                refine TW.pure (v := (Value.pointer (some ⟨(sBlk v5), sOff v5 + n_ * 1, none⟩))) rfl (by decide) (by decide) rfl (fun w => (Step.indexAddr (i := n_) (Try.un70).run Try.el2.sized rfl rfl (by omega) hb95 (by omega))) ?_
                refine TW.read (v := (Value.int .i64 x97)) rfl (by decide) (by decide) rfl (fun A w M => (Step.loadE (k := 0) Try.sc2 (flat_ec (own_slAt (M.chunk 4 rfl).inv) hx97 intE_len) (by decide) rfl rfl)) ?_
                refine TW.pure (v := (Value.int .i64 (gapT gap))) rfl (by decide) (by decide) rfl (fun w => (Step.move rfl)) ?_
                refine TW.pure (v := (Value.int .i64 (x97 + (gapT gap)))) rfl (by decide) (by decide) rfl (fun w => (Step.add rfl rfl (wrap_i64 (by omega)))) ?_
                refine TW.pure (v := v9) rfl (by decide) (by decide) rfl (fun w => (Step.move rfl)) ?_
                refine TW.pure (v := (Value.int .i64 ↑a_)) rfl (by decide) (by decide) rfl (fun w => (Step.move rfl)) ?_
                refine TW.pure (v := (Value.pointer (some ⟨(sBlk v9), sOff v9 + a_ * 2, none⟩))) rfl (by decide) (by decide) rfl (fun w => (Step.indexAddr (i := a_) (Try.un58).run Try.el65.sized rfl rfl (by omega) hb98 (by omega))) ?_
                refine TW.pure (v := (Value.pointer (some ⟨(sBlk v9), sOff v9 + a_ * 2 + 1, none⟩))) rfl (by decide) (by decide) rfl (fun w => (Step.pure (by kernel_rfl))) ?_
                refine TW.read (v := (Value.int .i64 w_.fin)) rfl (by decide) (by decide) rfl (fun A w M => (Step.loadE (k := 1) Try.sc2 (flat_ec (own_slAt (M.chunk 3 rfl).inv) hw_ spanE_len) (by decide) rfl rfl)) ?_
                refine TW.pure (v := (Value.bool ((x97 + (gapT gap) : Int) == (w_.fin : Int)))) rfl (by decide) (by decide) rfl (fun w => (Step.pure (by kernel_rfl))) ?_
                refine TW.pure (v := (Value.bool ((x97 + (gapT gap) : Int) == (w_.fin : Int)))) rfl (by decide) (by decide) rfl (fun w => (Step.pick (t := false) rfl rfl)) ?_
                refine TW.pure (v := (Value.bool ((x97 + (gapT gap) : Int) == (w_.fin : Int)))) rfl (by decide) (by decide) rfl (fun w => (Step.assign rfl)) ?_
                refine TW.done (fun w103 M => ?_)
                refine W.region rfl ?_
                refine WL.step (v := (Value.int .i64 ↑n_)) rfl (Step.move rfl) ?_
                refine WL.step (v := (Value.int .i64 (↑n_ + 1))) rfl (Step.add rfl rfl (wrap_i64 (by omega))) ?_
                refine WL.step (v := (Value.int .i64 (↑n_ + 1))) rfl (Step.assign rfl) ?_
                refine WL.nil ?_
                exact ⟨_, (by omega), n_ + 1, ((x97 : Int) == (w_.start : Int)), ((x97 + (gapT gap) : Int) == (w_.fin : Int)), ⟨(by omega), (anyB_step hi82 hx97 (fun h => by rw [h85] at h; cases h) (fun h => by simpa using h)), (anyB_step hi83 hx97 (fun h => by rw [h101] at h; cases h) (fun h => by simpa using h)), rfl⟩, ⟨rfl, rfl, rfl, rfl, rfl, rfl, rfl, rfl, rfl, rfl, rfl, rfl, rfl⟩, M⟩
          ·
            have h84p := of_decide_eq_false h84
            obtain ⟨hwe1_, u_, hwe2_, hwe3_⟩ := sesT_ends (gapT_in gap).1 (List.mem_of_getElem? hw_)
            have hst_ : s_ = true := anyB_end (p := fun t => t = w_.start) hi82 (by omega) hwe1_ rfl
            have het_ : e_ = true := anyB_end (p := fun t => t + gapT gap = w_.fin) hi83 (by omega) hwe2_ hwe3_.symm
            refine W.exit ?_
            refine thn_exit ?_
            refine thn_exit ?_
            refine inBlk_hit ?_
            refine W.seq' ?_
            rcases Bool.eq_false_or_eq_true (decide ((↑a_ : Int) > (0 : Int))) with h104 | h104
            ·
              have h104p := of_decide_eq_true h104
              obtain ⟨cap106, hb105⟩ := SlAt.base (own_slAt (M.chunk 2 rfl).inv) (by omega)
              obtain ⟨x107, hx107⟩ := elem_of_lt (xs := sesT (gapT gap) (l.map timT)) (i := a_ - 1) (by omega)
              refine W.drawn M [0, 1, 2, 3, 4, 5, 6, 7, 8, 9, 10, 11, 12, 13, 14, 15, 16, 17, 18, 19, 20, 21, 22, 23] [] [] [own 62 2 v52 ((sesT (gapT gap) (l.map timT)).length) ((sesT (gapT gap) (l.map timT)).flatMap spanE), own 65 2 nv_ ((sesT (gapT gap) ((rotT (l.map timT) k_).take i_)).length) ((sesT (gapT gap) ((rotT (l.map timT) k_).take i_)).flatMap spanE), own 65 2 v9 ((sesT (gapT gap) (l.map timT)).length) ((sesT (gapT gap) (l.map timT)).flatMap spanE), own 2 1 v5 ((l.map timT).length) ((l.map timT).flatMap intE)] [SlAt 1 lv l.length (l.flatMap intE)] (List.Sublist.cons_cons _ (List.Sublist.cons_cons _ (List.Sublist.cons_cons _ (List.Sublist.cons_cons _ List.Sublist.slnil)))) (fun _ h => h) Try.mixed (by kernel_rfl) ?_
              refine TW.pure (v := (Value.bool true)) rfl (by decide) (by decide) rfl (fun w => (Step.cast (congrArg Value.bool hst_) (Step.move rfl))) ?_
              refine TW.pure (v := (Value.bool false)) rfl (by decide) (by decide) rfl (fun w => (Step.pure (by kernel_rfl))) ?_
              refine TW.pure (v := (Value.bool false)) rfl (by decide) (by decide) rfl (fun w => (Step.move rfl)) ?_
              refine TW.pure (v := (Value.bool true)) rfl (by decide) (by decide) rfl (fun w => (Step.cast (congrArg Value.bool het_) (Step.move rfl))) ?_
              refine TW.pure (v := (Value.bool false)) rfl (by decide) (by decide) rfl (fun w => (Step.pure (by kernel_rfl))) ?_
              refine TW.pure (v := (Value.bool false)) rfl (by decide) (by decide) rfl (fun w => (Step.pick (t := false) rfl rfl)) ?_
              refine TW.pure (v := (Value.bool false)) rfl (by decide) (by decide) rfl (fun w => (Step.move rfl)) ?_
              refine TW.pure (v := (Value.int .i64 ↑a_)) rfl (by decide) (by decide) rfl (fun w => (Step.move rfl)) ?_
              refine TW.pure (v := (Value.bool true)) rfl (by decide) (by decide) rfl (fun w => (Step.cast (congrArg Value.bool h104) (Step.pure (by kernel_rfl)))) ?_
              refine TW.pure (v := (Value.bool true)) rfl (by decide) (by decide) rfl (fun w => (Step.move rfl)) ?_
              refine TW.pure (v := v9) rfl (by decide) (by decide) rfl (fun w => (Step.move rfl)) ?_
              refine TW.pure (v := (Value.int .i64 ↑a_)) rfl (by decide) (by decide) rfl (fun w => (Step.move rfl)) ?_
              refine TW.pure (v := (Value.int .i64 (↑(a_ - 1)))) rfl (by decide) (by decide) rfl (fun w => (Step.cast (congrArg (Value.int .i64) (show (↑a_ : Int) - 1 = ↑(a_ - 1) by omega)) (Step.sub rfl rfl (wrap_i64 (by omega))))) ?_
              refine TW.pure (v := (Value.pointer (some ⟨(sBlk v9), sOff v9 + (a_ - 1) * 2, none⟩))) rfl (by decide) (by decide) rfl (fun w => (Step.indexAddr (i := a_ - 1) (Try.un58).run Try.el65.sized rfl rfl (by omega) hb105 (by omega))) ?_
              refine TW.pure (v := (Value.pointer (some ⟨(sBlk v9), sOff v9 + (a_ - 1) * 2 + 1, none⟩))) rfl (by decide) (by decide) rfl (fun w => (Step.pure (by kernel_rfl))) ?_
              refine TW.read (v := (Value.int .i64 x107.fin)) rfl (by decide) (by decide) rfl (fun A w M => (Step.loadE (k := 1) Try.sc2 (flat_ec (own_slAt (M.chunk 3 rfl).inv) hx107 spanE_len) (by decide) rfl rfl)) ?_
              refine TW.pure (v := v9) rfl (by decide) (by decide) rfl (fun w => (Step.move rfl)) ?_
              refine TW.pure (v := (Value.int .i64 ↑a_)) rfl (by decide) (by decide) rfl (fun w => (Step.move rfl)) ?_
              refine TW.pure (v := (Value.pointer (some ⟨(sBlk v9), sOff v9 + a_ * 2, none⟩))) rfl (by decide) (by decide) rfl (fun w => (Step.indexAddr (i := a_) (Try.un58).run Try.el65.sized rfl rfl (by omega) hb105 (by omega))) ?_
              refine TW.pure (v := (Value.pointer (some ⟨(sBlk v9), sOff v9 + a_ * 2, none⟩))) rfl (by decide) (by decide) rfl (fun w => (Step.pure (by kernel_rfl))) ?_
              refine TW.read (v := (Value.int .i64 w_.start)) rfl (by decide) (by decide) rfl (fun A w M => (Step.loadE (k := 0) Try.sc2 (flat_ec (own_slAt (M.chunk 3 rfl).inv) hw_ spanE_len) (by decide) rfl rfl)) ?_
              refine TW.pure (v := (Value.bool false)) rfl (by decide) (by decide) rfl (fun w => (Step.cast (congrArg Value.bool (show (decide ((x107.fin : Int) > (w_.start : Int))) = false by have := canon_next (sesT_canon (gapT_in gap).1 (l.map timT)) (by omega) hx107 hw_; simp; omega)) (Step.pure (by kernel_rfl)))) ?_
              refine TW.pure (v := (Value.bool false)) rfl (by decide) (by decide) rfl (fun w => (Step.pick (t := true) rfl rfl)) ?_
              refine TW.pure (v := (Value.bool false)) rfl (by decide) (by decide) rfl (fun w => (Step.pick (t := false) rfl rfl)) ?_
              refine TW.done (fun w108 M => ?_)
              refine W.cond (t := false) rfl (fun h => by cases h) (fun _ => ?_)
              refine W.skip ?_
              refine W.region rfl ?_
              refine WL.step (v := (Value.int .i64 ↑a_)) rfl (Step.move rfl) ?_
              refine WL.step (v := (Value.int .i64 (↑a_ + 1))) rfl (Step.add rfl rfl (wrap_i64 (by omega))) ?_
              refine WL.step (v := (Value.int .i64 (↑a_ + 1))) rfl (Step.assign rfl) ?_
              refine WL.nil ?_
              exact ⟨_, (by omega), a_ + 1, ⟨(by omega), rfl⟩, ⟨rfl, rfl, rfl, rfl, rfl, rfl⟩, M⟩
            ·
              have h104p := of_decide_eq_false h104
              refine W.drawn M [0, 1, 2, 3, 4, 5, 6, 7, 8, 9, 10, 11, 12, 13, 14, 15, 16, 17, 18, 19, 20, 21, 22, 23] [] [] [own 62 2 v52 ((sesT (gapT gap) (l.map timT)).length) ((sesT (gapT gap) (l.map timT)).flatMap spanE), own 65 2 nv_ ((sesT (gapT gap) ((rotT (l.map timT) k_).take i_)).length) ((sesT (gapT gap) ((rotT (l.map timT) k_).take i_)).flatMap spanE), own 65 2 v9 ((sesT (gapT gap) (l.map timT)).length) ((sesT (gapT gap) (l.map timT)).flatMap spanE), own 2 1 v5 ((l.map timT).length) ((l.map timT).flatMap intE)] [SlAt 1 lv l.length (l.flatMap intE)] (List.Sublist.cons_cons _ (List.Sublist.cons_cons _ (List.Sublist.cons_cons _ (List.Sublist.cons_cons _ List.Sublist.slnil)))) (fun _ h => h) Try.mixed (by kernel_rfl) ?_
              refine TW.pure (v := (Value.bool true)) rfl (by decide) (by decide) rfl (fun w => (Step.cast (congrArg Value.bool hst_) (Step.move rfl))) ?_
              refine TW.pure (v := (Value.bool false)) rfl (by decide) (by decide) rfl (fun w => (Step.pure (by kernel_rfl))) ?_
              refine TW.pure (v := (Value.bool false)) rfl (by decide) (by decide) rfl (fun w => (Step.move rfl)) ?_
              refine TW.pure (v := (Value.bool true)) rfl (by decide) (by decide) rfl (fun w => (Step.cast (congrArg Value.bool het_) (Step.move rfl))) ?_
              refine TW.pure (v := (Value.bool false)) rfl (by decide) (by decide) rfl (fun w => (Step.pure (by kernel_rfl))) ?_
              refine TW.pure (v := (Value.bool false)) rfl (by decide) (by decide) rfl (fun w => (Step.pick (t := false) rfl rfl)) ?_
              refine TW.pure (v := (Value.bool false)) rfl (by decide) (by decide) rfl (fun w => (Step.move rfl)) ?_
              refine TW.pure (v := (Value.int .i64 ↑a_)) rfl (by decide) (by decide) rfl (fun w => (Step.move rfl)) ?_
              refine TW.pure (v := (Value.bool false)) rfl (by decide) (by decide) rfl (fun w => (Step.cast (congrArg Value.bool h104) (Step.pure (by kernel_rfl)))) ?_
              refine TW.pure (v := (Value.bool false)) rfl (by decide) (by decide) rfl (fun w => (Step.move rfl)) ?_
              refine TW.skip rfl rfl ?_
              refine TW.skip rfl rfl ?_
              refine TW.skip rfl rfl ?_
              refine TW.skip rfl rfl ?_
              refine TW.skip rfl rfl ?_
              refine TW.skip rfl rfl ?_
              refine TW.skip rfl rfl ?_
              refine TW.skip rfl rfl ?_
              refine TW.skip rfl rfl ?_
              refine TW.skip rfl rfl ?_
              refine TW.skip rfl rfl ?_
              refine TW.skip rfl rfl ?_
              refine TW.pure (v := (Value.bool false)) rfl (by decide) (by decide) rfl (fun w => (Step.pick (t := false) rfl rfl)) ?_
              refine TW.pure (v := (Value.bool false)) rfl (by decide) (by decide) rfl (fun w => (Step.pick (t := false) rfl rfl)) ?_
              refine TW.done (fun w109 M => ?_)
              refine W.cond (t := false) rfl (fun h => by cases h) (fun _ => ?_)
              refine W.skip ?_
              refine W.region rfl ?_
              refine WL.step (v := (Value.int .i64 ↑a_)) rfl (Step.move rfl) ?_
              refine WL.step (v := (Value.int .i64 (↑a_ + 1))) rfl (Step.add rfl rfl (wrap_i64 (by omega))) ?_
              refine WL.step (v := (Value.int .i64 (↑a_ + 1))) rfl (Step.assign rfl) ?_
              refine WL.nil ?_
              exact ⟨_, (by omega), a_ + 1, ⟨(by omega), rfl⟩, ⟨rfl, rfl, rfl, rfl, rfl, rfl⟩, M⟩
        ·
          have h78p := of_decide_eq_false h78
          refine W.exit ?_
          refine thn_exit ?_
          refine thn_exit ?_
          refine inBlk_hit ?_
          refine W.seq' ?_
          refine W.region rfl ?_
          refine WL.callX rfl (law17_works  (M.enterW0 trivial)) (CallsF.func Try.en29 rfl) ?_
          rintro _ w110 ⟨rfl, m⟩
          replace M := M.leaveW0 m
          clear m
          replace M : Mem _ _ _ [own 62 2 v52 ((sesT (gapT gap) (l.map timT)).length) ((sesT (gapT gap) (l.map timT)).flatMap spanE), own 65 2 nv_ ((sesT (gapT gap) ((rotT (l.map timT) k_).take i_)).length) ((sesT (gapT gap) ((rotT (l.map timT) k_).take i_)).flatMap spanE), own 65 2 v9 ((sesT (gapT gap) (l.map timT)).length) ((sesT (gapT gap) (l.map timT)).flatMap spanE), own 2 1 v5 ((l.map timT).length) ((l.map timT).flatMap intE)] [SlAt 1 lv l.length (l.flatMap intE)] _ := M
          refine WL.step (v := (Value.bool true)) rfl (Step.assign rfl) ?_
          refine WL.nil ?_
          refine W.ret ?_
          refine ⟨.inl rfl, (Value.bool true), ?_, ?_⟩
          · exact ⟨rfl, (Res.r1 (show RV _ _ _ (.tmp 6) (Value.bool true) from by exact rfl))⟩
          refine ⟨?_, M.close [] rfl (by decide) trivial⟩
          rfl
end Go.Proofs
