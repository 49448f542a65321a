/- Walks. -/
import Derived.Test.YthihknbbibgchaaTrT5
set_option maxRecDepth 100000
set_option linter.all false
namespace Go.Proofs
open Go Tp
theorem Try.en78 : Enters Try.prog 78 := fun _ _ => by kernel_rfl

theorem ref17_all {G : Nat → Prop} {w : World} (v : Value) (l : List Span)  (hb : l.length ≤ 1000000) (hok : okL l) (M : Mem G (fun _ => False) w [] [SlAt 2 v l.length (l.flatMap spanE)] w) : Rets Try.prog 59 #[v] w fun r w' => ∃ (v' : Value), r = v' ∧ Mem G (fun _ => False) w [own 62 2 v' ((canS l).length) ((canS l).flatMap spanE)] [] w' := by
  refine Rets.enter 62 _ Try.func59 rfl Try.ntmps59 Try.results59 (by simp) ?_
  have hle1 := SlAt.le' (M.rep 0 rfl)
  have sl2 : IsSl v := SlAt.isSl (Mem.rep M 0 rfl)
  refine W.seq' ?_
  refine W.region rfl ?_
  refine WL.step (v := (Value.slice none 0 0)) rfl (Step.assign rfl) ?_
  refine WL.nil ?_
  refine W.seq' ?_
  refine W.region rfl ?_
  refine WL.step (v := (Value.bool true)) rfl (Step.assign rfl) ?_
  refine WL.nil ?_
  refine W.seq' ?_
  refine W.block ?_
  refine W.loop (fun kk ρ w' => ∃ (zv_ : Value) (zs_ : List Span) (m_ : Bool), ((okL zs_) ∧ (∀ x, cov l x ↔ cov zs_ x) ∧ (m_ = false → zs_.Pairwise fun a b => overS2 a b = false) ∧ (zs_.length ≤ l.length) ∧ kk = 2 * zs_.length + m_.toNat) ∧ ρ.has [(0, zv_), (2, (Value.slice none 0 0)), (3, (Value.bool m_))] ∧ Mem G (fun _ => False) w [] [SlAt 2 zv_ zs_.length (zs_.flatMap spanE)]  w') _ ⟨v, l, true, ⟨hok, (fun _ => Iff.rfl), (fun h => by cases h), (Nat.le_refl _), rfl⟩, ⟨rfl, rfl, rfl, rfl, rfl⟩, M⟩ ?_
  rintro _ ρ4 w3 ⟨zv_, zs_, m_, ⟨hi5, hi6, hi7, hi8, rfl⟩, hρ, M⟩
  obtain ⟨ρ4, rfl⟩ := hρ.know
  clear hρ
  have sl9 : IsSl zv_ := SlAt.isSl (M.rep 0 rfl)
  refine W.seq' ?_
  refine W.seq' ?_
  refine W.region rfl ?_
  refine WL.step (v := (Value.bool m_)) rfl (Step.move rfl) ?_
  refine WL.nil ?_
  refine W.cond (t := m_) rfl (fun h10 => ?_) (fun h10 => ?_)
  ·
    refine W.skip ?_
    refine W.block ?_
    refine W.region rfl ?_
    refine WL.step (v := zv_) rfl (Step.move rfl) ?_
    refine WL.callX rfl (ref17_merge zv_ zs_ (by first | omega | assumption | decide | (simp only [List.length_nil, List.length_cons, List.length_take, List.length_drop]; omega)) (M.enter0 ⟨(M.shr' 0 rfl), trivial⟩)) (CallsF.func Try.en78 rfl) ?_
    rintro _ w12 ⟨v11, rfl, m⟩
    replace M := M.leave0 m
    clear m
    replace M : Mem _ _ _ [] [SlAt 2 v11 ((mergeS zs_).1).length (((mergeS zs_).1).flatMap spanE), SlAt 2 zv_ zs_.length (zs_.flatMap spanE)] _ := M
    have sl13 : IsSl v11 := SlAt.isSl (Mem.rep M 0 rfl)
    have hle14 := SlAt.le' (M.rep 0 rfl)
    refine WL.step (v := (Value.tuple #[v11, (Value.bool ((mergeS zs_).2))])) rfl (Step.move rfl) ?_
    refine WL.step (v := v11) rfl (Step.pure (by kernel_rfl)) ?_
    refine WL.step (v := (Value.bool ((mergeS zs_).2))) rfl (Step.pure (by kernel_rfl)) ?_
    refine WL.step (v := v11) rfl (Step.assign rfl) ?_
    refine WL.step (v := (Value.bool ((mergeS zs_).2))) rfl (Step.assign rfl) ?_
    refine WL.nil ?_
    have hls_ := merge_less (l := zs_) h10
    replace M := M.facts (R' := [SlAt 2 v11 ((mergeS zs_).1).length (((mergeS zs_).1).flatMap spanE)]) (Facts.all ⟨M.shr' 0 rfl, trivial⟩)
    exact ⟨_, (by omega), v11, (mergeS zs_).1, (mergeS zs_).2, ⟨(mergeS_fact.1 hi5), (fun x => (hi6 x).trans (mergeS_fact.2.1 hi5 x)), merge_pw, (Nat.le_trans merge_le hi8), rfl⟩, ⟨rfl, rfl, rfl, rfl, rfl⟩, M⟩
  ·
    refine W.exit ?_
    refine thn_exit ?_
    refine thn_exit ?_
    refine inBlk_hit ?_
    refine W.seq' ?_
    refine W.region rfl ?_
    refine WL.step (v := (Value.slice none 0 0)) rfl (Step.assign rfl) ?_
    refine WL.nil ?_
    refine W.seq' ?_
    refine W.seq' ?_
    refine W.region rfl ?_
    refine WL.step (v := (Value.int .i64 0)) rfl (Step.assign rfl) ?_
    refine WL.nil ?_
    refine W.block ?_
    replace M := M.ownNil 62 2
    replace M := M.rechunk 0 (c' := own 62 2 (Value.slice none 0 0) (((sortN cmpSt zs_ 0).take 0).length) (((sortN cmpSt zs_ 0).take 0).flatMap spanE)) rfl rfl
    replace M : Mem _ _ _ [own 62 2 (Value.slice none 0 0) (((sortN cmpSt zs_ 0).take 0).length) (((sortN cmpSt zs_ 0).take 0).flatMap spanE)] [SlAt 2 zv_ zs_.length (zs_.flatMap spanE)] _ := M
    refine W.loop (fun kk ρ w' => ∃ (i_ : Nat) (acci_ : Value), ((i_ ≤ zs_.length) ∧ kk = zs_.length - i_) ∧ ρ.has [(0, zv_), (2, (Value.slice none 0 0)), (4, acci_), (5, (Value.int .i64 ↑i_))] ∧ Mem G (fun _ => False) w [own 62 2 acci_ (((sortN cmpSt zs_ i_).take i_).length) (((sortN cmpSt zs_ i_).take i_).flatMap spanE)] [SlAt 2 zv_ zs_.length (zs_.flatMap spanE)]  w') _ ⟨0, _, ⟨(Nat.zero_le _), rfl⟩, ⟨rfl, rfl, rfl, rfl, rfl, rfl⟩, M⟩ ?_
    rintro _ ρ16 w15 ⟨i_, acci_, ⟨hi17, rfl⟩, hρ, M⟩
    obtain ⟨ρ16, rfl⟩ := hρ.know
    clear hρ
    have sl18 : IsSl acci_ := SlAt.isSl (own_slAt (M.chunk 0 rfl).inv)
    have hacl : ((sortN cmpSt zs_ i_).take i_).length = i_ := by rw [List.length_take, sortN_len]; omega
    refine W.seq' ?_
    refine W.seq' ?_
    refine W.region rfl ?_
    refine WL.step (v := (Value.int .i64 ↑i_)) rfl (Step.move rfl) ?_
    refine WL.step (v := zv_) rfl (Step.move rfl) ?_
    refine WL.step (v := (Value.int .i64 ↑zs_.length)) rfl (Step.lenSl Try.un59 rfl (M.rep 0 rfl)) ?_
    refine WL.step (v := (Value.bool (decide ((↑i_ : Int) < (↑zs_.length : Int))))) rfl (Step.pure (by kernel_rfl)) ?_
    refine WL.nil ?_
    refine W.cond (t := decide ((↑i_ : Int) < (↑zs_.length : Int))) rfl (fun h19 => ?_) (fun h19 => ?_)
    ·
      have h19p := of_decide_eq_true h19
      refine W.skip ?_
      refine W.seq' ?_
      refine W.block ?_
      refine W.seq' ?_
      refine W.region rfl ?_
      refine WL.step (v := acci_) rfl (Step.move rfl) ?_
      refine WL.step (v := zv_) rfl (Step.move rfl) ?_
      refine WL.step (v := (Value.int .i64 ↑i_)) rfl (Step.move rfl) ?_
      obtain ⟨cap21, hb20⟩ := SlAt.base (M.rep 0 rfl) (by omega)
      refine WL.step (v := (Value.pointer (some ⟨(sBlk zv_), sOff zv_ + i_ * 2, none⟩))) rfl (Step.indexAddr (i := i_) (Try.un59).run Try.el62.sized rfl rfl (by omega) hb20 (by omega)) ?_
      obtain ⟨x22, hx22⟩ := elem_of_lt (xs := zs_) (i := i_) (by omega)
      refine WL.step (v := (Value.agg #[(Value.int .i64 x22.start), (Value.int .i64 x22.fin)])) rfl (Step.loadEN (k := 0) (cs' := [(Value.int .i64 x22.start), (Value.int .i64 x22.fin)]) Try.ag62 (flat_ec (M.rep 0 rfl) hx22 spanE_len) (by decide) rfl rfl rfl) ?_
      refine WL.new (obj := .cells #[(Value.int .i64 x22.start), (Value.int .i64 x22.fin)] 62) (fun b => .slice (some ⟨b, 0, none⟩) 1 1) M rfl (fun w => Step.make (by kernel_rfl)) (fun b23 w24 hb23 M => ?_)
      refine WL.does rfl (M.appendF ((sortN cmpSt zs_ i_).take i_) ([x22] : List Span) (sv := (Value.slice (some ⟨b23, 0, none⟩) 1 1)) 1 Try.un59 Try.el62 rfl (by decide) rfl rfl rfl (SlAt.of_blk (M.blk 0 rfl) rfl (by decide)) spanE_cel (by have := hacl; simp only [maxLen, List.length_nil, List.length_cons, List.length_append]; omega) (by have := hacl; (try simp only [List.length_nil, List.length_cons, List.length_append]); omega)) ?_
      rintro v25 w26 M
      replace M : Mem _ _ _ [blk b23 (.cells #[(Value.int .i64 x22.start), (Value.int .i64 x22.fin)] 62), own 62 2 v25 ((((sortN cmpSt zs_ i_).take i_) ++ ([x22] : List Span)).length) ((((sortN cmpSt zs_ i_).take i_) ++ ([x22] : List Span)).flatMap spanE)] [SlAt 2 zv_ zs_.length (zs_.flatMap spanE)] _ := M
      have sl27 : IsSl v25 := SlAt.isSl (own_slAt (M.chunk 1 rfl).inv)
      refine WL.step (v := v25) rfl (Step.assign rfl) ?_
      refine WL.nil ?_
      refine W.seq' ?_
      refine W.region rfl ?_
      refine WL.step (v := (Value.int .i64 ↑i_)) rfl (Step.move rfl) ?_
      refine WL.step (v := (Value.int .i64 ↑i_)) rfl (Step.assign rfl) ?_
      refine WL.nil ?_
      refine W.block ?_
      replace M := M.sel (L' := [own 62 2 v25 ((((sortN cmpSt zs_ i_).take i_) ++ ([x22] : List Span)).length) ((((sortN cmpSt zs_ i_).take i_) ++ ([x22] : List Span)).flatMap spanE), blk b23 (.cells #[(Value.int .i64 x22.start), (Value.int .i64 x22.fin)] 62)]) [1, 0] rfl (by decide)
      replace M : Mem _ _ _ [own 62 2 v25 ((((sortN cmpSt zs_ i_).take i_) ++ ([x22] : List Span)).length) ((((sortN cmpSt zs_ i_).take i_) ++ ([x22] : List Span)).flatMap spanE), blk b23 (.cells #[(Value.int .i64 x22.start), (Value.int .i64 x22.fin)] 62)] [SlAt 2 zv_ zs_.length (zs_.flatMap spanE)] _ := M
      refine W.loop (fun kk ρ w' => ∃ (k_ : Nat) (ys_ : List Span), ((k_ ≤ i_) ∧ (ys_.length = i_ + 1) ∧ (bub cmpSt ys_ k_ = (sortN cmpSt zs_ (i_ + 1)).take (i_ + 1)) ∧ kk = k_ + 1) ∧ ρ.has [(0, zv_), (2, (Value.slice none 0 0)), (4, v25), (5, (Value.int .i64 ↑i_)), (6, (Value.int .i64 ↑k_)), (13, (Value.int .i64 ↑i_)), (14, zv_), (15, (Value.int .i64 ↑zs_.length)), (16, (Value.bool (decide ((↑i_ : Int) < (↑zs_.length : Int))))), (19, acci_), (20, zv_), (21, (Value.int .i64 ↑i_)), (22, (Value.pointer (some ⟨(sBlk zv_), sOff zv_ + i_ * 2, none⟩))), (23, (Value.agg #[(Value.int .i64 x22.start), (Value.int .i64 x22.fin)])), (24, (Value.slice (some ⟨b23, 0, none⟩) 1 1)), (25, v25), (26, (Value.int .i64 ↑i_))] ∧ Mem G (fun _ => False) w [own 62 2 v25 ys_.length (ys_.flatMap spanE), blk b23 (.cells #[(Value.int .i64 x22.start), (Value.int .i64 x22.fin)] 62)] [SlAt 2 zv_ zs_.length (zs_.flatMap spanE)]  w') _ ⟨i_, ((sortN cmpSt zs_ i_).take i_) ++ ([x22] : List Span), ⟨(Nat.le_refl _), (by simp [sortN_len]; omega), (sortN_snoc cmpSt hx22).symm, rfl⟩, ⟨rfl, rfl, rfl, rfl, rfl, rfl, rfl, rfl, rfl, rfl, rfl, rfl, rfl, rfl, rfl, rfl, rfl, rfl, rfl⟩, M⟩ ?_
      rintro _ ρ29 w28 ⟨k_, ys_, ⟨hi30, hi31, hi32, rfl⟩, hρ, M⟩
      obtain ⟨ρ29, rfl⟩ := hρ.know
      clear hρ
      refine W.seq' ?_
      refine W.seq' ?_
      rcases Bool.eq_false_or_eq_true (decide ((↑k_ : Int) > (0 : Int))) with h33 | h33
      ·
        have h33p := of_decide_eq_true h33
        obtain ⟨cap35, hb34⟩ := SlAt.base (own_slAt (M.chunk 0 rfl).inv) (by omega)
        obtain ⟨x36, hx36⟩ := elem_of_lt (xs := ys_) (i := k_ - 1) (by omega)
        obtain ⟨x37, hx37⟩ := elem_of_lt (xs := ys_) (i := k_) (by omega)
        refine W.drawn M [0, 1, 2, 3, 4, 5, 6, 7, 8, 9, 10, 11, 12, 13, 14, 15] [] [] [own 62 2 v25 ys_.length (ys_.flatMap spanE), blk b23 (.cells #[(Value.int .i64 x22.start), (Value.int .i64 x22.fin)] 62)] [SlAt 2 zv_ zs_.length (zs_.flatMap spanE)] (List.Sublist.cons_cons _ (List.Sublist.cons_cons _ List.Sublist.slnil)) (fun _ h => h) Try.mixed (by kernel_rfl) ?_
        refine TW.pure (v := (Value.int .i64 ↑k_)) rfl (by decide) (by decide) rfl (fun w => (Step.move rfl)) ?_
        refine TW.pure (v := (Value.bool true)) rfl (by decide) (by decide) rfl (fun w => (Step.cast (congrArg Value.bool h33) (Step.pure (by kernel_rfl)))) ?_
        refine TW.pure (v := (Value.bool true)) rfl (by decide) (by decide) rfl (fun w => (Step.move rfl)) ?_
        refine TW.pure (v := v25) rfl (by decide) (by decide) rfl (fun w => (Step.move rfl)) ?_
        refine TW.pure (v := (Value.int .i64 ↑k_)) rfl (by decide) (by decide) rfl (fun w => (Step.move rfl)) ?_
        refine TW.pure (v := (Value.int .i64 (↑(k_ - 1)))) rfl (by decide) (by decide) rfl (fun w => (Step.cast (congrArg (Value.int .i64) (show (↑k_ : Int) - 1 = ↑(k_ - 1) by omega)) (Step.sub rfl rfl (wrap_i64 (by omega))))) ?_
        refine TW.pure (v := (Value.pointer (some ⟨(sBlk v25), sOff v25 + (k_ - 1) * 2, none⟩))) rfl (by decide) (by decide) rfl (fun w => (Step.indexAddr (i := k_ - 1) (Try.un59).run Try.el62.sized rfl rfl (by omega) hb34 (by omega))) ?_
        refine TW.pure (v := (Value.pointer (some ⟨(sBlk v25), sOff v25 + (k_ - 1) * 2, none⟩))) rfl (by decide) (by decide) rfl (fun w => (Step.pure (by kernel_rfl))) ?_
        refine TW.read (v := (Value.int .i64 x36.start)) rfl (by decide) (by decide) rfl (fun A w M => (Step.loadE (k := 0) Try.sc2 (flat_ec (own_slAt (M.chunk 1 rfl).inv) hx36 spanE_len) (by decide) rfl rfl)) ?_
        refine TW.pure (v := v25) rfl (by decide) (by decide) rfl (fun w => (Step.move rfl)) ?_
        refine TW.pure (v := (Value.int .i64 ↑k_)) rfl (by decide) (by decide) rfl (fun w => (Step.move rfl)) ?_
        refine TW.pure (v := (Value.pointer (some ⟨(sBlk v25), sOff v25 + k_ * 2, none⟩))) rfl (by decide) (by decide) rfl (fun w => (Step.indexAddr (i := k_) (Try.un59).run Try.el62.sized rfl rfl (by omega) hb34 (by omega))) ?_
        refine TW.pure (v := (Value.pointer (some ⟨(sBlk v25), sOff v25 + k_ * 2, none⟩))) rfl (by decide) (by decide) rfl (fun w => (Step.pure (by kernel_rfl))) ?_
        refine TW.read (v := (Value.int .i64 x37.start)) rfl (by decide) (by decide) rfl (fun A w M => (Step.loadE (k := 0) Try.sc2 (flat_ec (own_slAt (M.chunk 1 rfl).inv) hx37 spanE_len) (by decide) rfl rfl)) ?_
        refine TW.pure (v := (Value.bool (decide ((x36.start : Int) > (x37.start : Int))))) rfl (by decide) (by decide) rfl (fun w => (Step.pure (by kernel_rfl))) ?_
        refine TW.pure (v := (Value.bool (decide ((x36.start : Int) > (x37.start : Int))))) rfl (by decide) (by decide) rfl (fun w => (Step.pick (t := true) rfl rfl)) ?_
        refine TW.done (fun w38 M => ?_)
        refine W.cond (t := decide ((x36.start : Int) > (x37.start : Int))) rfl (fun h39 => ?_) (fun h39 => ?_)
        ·
          have h39p := of_decide_eq_true h39
          refine W.skip ?_
          refine W.seq' ?_
          refine W.block ?_
          refine W.drawn M [0, 1, 2, 3, 4, 5, 6, 7, 8, 9, 10, 11, 12, 13, 14, 15, 16, 17] [8, 13, 15, 17] [8, 13] [blk b23 (.cells #[(Value.int .i64 x22.start), (Value.int .i64 x22.fin)] 62)] [SlAt 2 zv_ zs_.length (zs_.flatMap spanE)] (List.Sublist.cons _ (List.Sublist.cons_cons _ List.Sublist.slnil)) (fun _ h => h) Try.mixed (by kernel_rfl) ?_
          refine TW.pure (v := v25) rfl (by decide) (by decide) rfl (fun w => (Step.move rfl)) ?_
          refine TW.pure (v := (Value.int .i64 ↑k_)) rfl (by decide) (by decide) rfl (fun w => (Step.move rfl)) ?_
          refine TW.pure (v := (Value.int .i64 (↑(k_ - 1)))) rfl (by decide) (by decide) rfl (fun w => (Step.cast (congrArg (Value.int .i64) (show (↑k_ : Int) - 1 = ↑(k_ - 1) by omega)) (Step.sub rfl rfl (wrap_i64 (by omega))))) ?_
          refine TW.pure (v := v25) rfl (by decide) (by decide) rfl (fun w => (Step.move rfl)) ?_
          refine TW.pure (v := (Value.int .i64 ↑k_)) rfl (by decide) (by decide) rfl (fun w => (Step.move rfl)) ?_
          refine TW.pure (v := v25) rfl (by decide) (by decide) rfl (fun w => (Step.move rfl)) ?_
          refine TW.pure (v := (Value.int .i64 ↑k_)) rfl (by decide) (by decide) rfl (fun w => (Step.move rfl)) ?_
          refine TW.pure (v := (Value.pointer (some ⟨(sBlk v25), sOff v25 + k_ * 2, none⟩))) rfl (by decide) (by decide) rfl (fun w => (Step.indexAddr (i := k_) (Try.un59).run Try.el62.sized rfl rfl (by omega) hb34 (by omega))) ?_
          refine TW.readP (v := (Value.agg #[(Value.int .i64 x37.start), (Value.int .i64 x37.fin)])) rfl (by decide) (by decide) rfl (fun A w M => (Step.loadEN (k := 0) (cs' := [(Value.int .i64 x37.start), (Value.int .i64 x37.fin)]) Try.ag62 (flat_ec (own_slAt (M.chunk 1 rfl).inv) hx37 spanE_len) (by decide) rfl rfl rfl)) ?_
          refine TW.pure (v := v25) rfl (by decide) (by decide) rfl (fun w => (Step.move rfl)) ?_
          refine TW.pure (v := (Value.int .i64 ↑k_)) rfl (by decide) (by decide) rfl (fun w => (Step.move rfl)) ?_
          refine TW.pure (v := (Value.int .i64 (↑(k_ - 1)))) rfl (by decide) (by decide) rfl (fun w => (Step.cast (congrArg (Value.int .i64) (show (↑k_ : Int) - 1 = ↑(k_ - 1) by omega)) (Step.sub rfl rfl (wrap_i64 (by omega))))) ?_
          refine TW.pure (v := (Value.pointer (some ⟨(sBlk v25), sOff v25 + (k_ - 1) * 2, none⟩))) rfl (by decide) (by decide) rfl (fun w => (Step.indexAddr (i := k_ - 1) (Try.un59).run Try.el62.sized rfl rfl (by omega) hb34 (by omega))) ?_
          refine TW.readP (v := (Value.agg #[(Value.int .i64 x36.start), (Value.int .i64 x36.fin)])) rfl (by decide) (by decide) rfl (fun A w M => (Step.loadEN (k := 0) (cs' := [(Value.int .i64 x36.start), (Value.int .i64 x36.fin)]) Try.ag62 (flat_ec (own_slAt (M.chunk 1 rfl).inv) hx36 spanE_len) (by decide) rfl rfl rfl)) ?_
          refine TW.pure (v := (Value.pointer (some ⟨(sBlk v25), sOff v25 + (k_ - 1) * 2, none⟩))) rfl (by decide) (by decide) rfl (fun w => (Step.indexAddr (i := k_ - 1) (Try.un59).run Try.el62.sized rfl rfl (by omega) hb34 (by omega))) ?_
          refine TW.act (c' := own 62 2 v25 ((ys_.set (k_ - 1) x37).length) ((ys_.set (k_ - 1) x37).flatMap spanE)) 0 rfl rfl (by decide) rfl (List.Sublist.cons _ (List.Sublist.cons_cons _ List.Sublist.slnil)) (fun r h => h) (fun A w M => M.storeF spanE_len x37 1 rfl Try.el62.sized rfl rfl rfl (cel_cons rfl (cel_cons rfl cel_nil)) (by first | omega | (simp only [List.length_set]; omega))) ?_
          refine TW.pure (v := (Value.pointer (some ⟨(sBlk v25), sOff v25 + k_ * 2, none⟩))) rfl (by decide) (by decide) rfl (fun w => (Step.indexAddr (i := k_) (Try.un59).run Try.el62.sized rfl rfl (by omega) hb34 (by omega))) ?_
          refine TW.act (c' := own 62 2 v25 (((ys_.set (k_ - 1) x37).set k_ x36).length) (((ys_.set (k_ - 1) x37).set k_ x36).flatMap spanE)) 0 rfl rfl (by decide) rfl (List.Sublist.cons _ (List.Sublist.cons_cons _ List.Sublist.slnil)) (fun r h => h) (fun A w M => M.storeF spanE_len x36 1 rfl Try.el62.sized rfl rfl rfl (cel_cons rfl (cel_cons rfl cel_nil)) (by first | omega | (simp only [List.length_set]; omega))) ?_
          refine TW.done (fun w40 M => ?_)
          refine W.region rfl ?_
          refine WL.step (v := (Value.int .i64 ↑k_)) rfl (Step.move rfl) ?_
          refine WL.step (v := (Value.int .i64 (↑(k_ - 1)))) rfl (Step.cast (congrArg (Value.int .i64) (show (↑k_ : Int) - 1 = ↑(k_ - 1) by omega)) (Step.sub rfl rfl (wrap_i64 (by omega)))) ?_
          refine WL.step (v := (Value.int .i64 (↑(k_ - 1)))) rfl (Step.assign rfl) ?_
          refine WL.nil ?_
          exact ⟨_, (by omega), k_ - 1, (ys_.set (k_ - 1) x37).set k_ x36, ⟨(by omega), (by simp only [List.length_set]; exact hi31), (by rw [List.set_comm _ _ (by omega), ← bub_go cmpSt (by omega) hx37 hx36 (cmpSt_go h39p)]; exact hi32), rfl⟩, ⟨rfl, rfl, rfl, rfl, rfl, rfl, rfl, rfl, rfl, rfl, rfl, rfl, rfl, rfl, rfl, rfl, rfl, rfl, rfl⟩, M⟩
        ·
          have h39p := of_decide_eq_false h39
          refine W.exit ?_
          refine thn_exit ?_
          refine thn_exit ?_
          refine inBlk_hit ?_
          refine W.region rfl ?_
          refine WL.step (v := (Value.int .i64 ↑i_)) rfl (Step.move rfl) ?_
          refine WL.step (v := (Value.int .i64 (↑i_ + 1))) rfl (Step.add rfl rfl (wrap_i64 (by omega))) ?_
          refine WL.step (v := (Value.int .i64 (↑i_ + 1))) rfl (Step.assign rfl) ?_
          refine WL.nil ?_
          replace M := M.rechunk 0 (c' := own 62 2 v25 (((sortN cmpSt zs_ (i_ + 1)).take (i_ + 1)).length) (((sortN cmpSt zs_ (i_ + 1)).take (i_ + 1)).flatMap spanE)) rfl (by rw [← hi32, bub_stop cmpSt (by omega) hx37 hx36 (cmpSt_stop h39p)])
          replace M : Mem _ _ _ [own 62 2 v25 (((sortN cmpSt zs_ (i_ + 1)).take (i_ + 1)).length) (((sortN cmpSt zs_ (i_ + 1)).take (i_ + 1)).flatMap spanE), blk b23 (.cells #[(Value.int .i64 x22.start), (Value.int .i64 x22.fin)] 62)] [SlAt 2 zv_ zs_.length (zs_.flatMap spanE)] _ := M
          replace M := M.sel (L' := [own 62 2 v25 (((sortN cmpSt zs_ (i_ + 1)).take (i_ + 1)).length) (((sortN cmpSt zs_ (i_ + 1)).take (i_ + 1)).flatMap spanE)]) [0] rfl (by decide)
          exact ⟨_, (by omega), i_ + 1, v25, ⟨(by omega), rfl⟩, ⟨rfl, rfl, rfl, rfl, rfl, rfl⟩, M⟩
      ·
        have h33p := of_decide_eq_false h33
        refine W.drawn M [0, 1, 2, 3, 4, 5, 6, 7, 8, 9, 10, 11, 12, 13, 14, 15] [] [] [own 62 2 v25 ys_.length (ys_.flatMap spanE), blk b23 (.cells #[(Value.int .i64 x22.start), (Value.int .i64 x22.fin)] 62)] [SlAt 2 zv_ zs_.length (zs_.flatMap spanE)] (List.Sublist.cons_cons _ (List.Sublist.cons_cons _ List.Sublist.slnil)) (fun _ h => h) Try.mixed (by kernel_rfl) ?_
        refine TW.pure (v := (Value.int .i64 ↑k_)) rfl (by decide) (by decide) rfl (fun w => (Step.move rfl)) ?_
        refine TW.pure (v := (Value.bool false)) rfl (by decide) (by decide) rfl (fun w => (Step.cast (congrArg Value.bool h33) (Step.pure (by kernel_rfl)))) ?_
        refine TW.pure (v := (Value.bool false)) rfl (by decide) (by decide) rfl (fun w => (Step.move rfl)) ?_
        refine TW.skip rfl rfl ?_
        refine TW.skip rfl rfl ?_
        refine TW.skip rfl rfl ?_
        refine TW.skip rfl rfl ?_
        refine TW.skip rfl rfl ?_
        refine TW.skip rfl rfl ?_
        refine TW.skip rfl rfl ?_
        refine TW.skip rfl rfl ?_
        refine TW.skip rfl rfl ?_
        refine TW.skip rfl rfl ?_
        refine TW.skip rfl rfl ?_
        refine TW.skip rfl rfl ?_
        refine TW.pure (v := (Value.bool false)) rfl (by decide) (by decide) rfl (fun w => (Step.pick (t := false) rfl rfl)) ?_
        refine TW.done (fun w41 M => ?_)
        refine W.cond (t := false) rfl (fun h => by cases h) (fun _ => ?_)
        refine W.exit ?_
        refine thn_exit ?_
        refine thn_exit ?_
        refine inBlk_hit ?_
        refine W.region rfl ?_
        refine WL.step (v := (Value.int .i64 ↑i_)) rfl (Step.move rfl) ?_
        refine WL.step (v := (Value.int .i64 (↑i_ + 1))) rfl (Step.add rfl rfl (wrap_i64 (by omega))) ?_
        refine WL.step (v := (Value.int .i64 (↑i_ + 1))) rfl (Step.assign rfl) ?_
        refine WL.nil ?_
        replace M := M.rechunk 0 (c' := own 62 2 v25 (((sortN cmpSt zs_ (i_ + 1)).take (i_ + 1)).length) (((sortN cmpSt zs_ (i_ + 1)).take (i_ + 1)).flatMap spanE)) rfl (by rw [← hi32, show k_ = 0 by omega, bub_zero])
        replace M : Mem _ _ _ [own 62 2 v25 (((sortN cmpSt zs_ (i_ + 1)).take (i_ + 1)).length) (((sortN cmpSt zs_ (i_ + 1)).take (i_ + 1)).flatMap spanE), blk b23 (.cells #[(Value.int .i64 x22.start), (Value.int .i64 x22.fin)] 62)] [SlAt 2 zv_ zs_.length (zs_.flatMap spanE)] _ := M
        replace M := M.sel (L' := [own 62 2 v25 (((sortN cmpSt zs_ (i_ + 1)).take (i_ + 1)).length) (((sortN cmpSt zs_ (i_ + 1)).take (i_ + 1)).flatMap spanE)]) [0] rfl (by decide)
        exact ⟨_, (by omega), i_ + 1, v25, ⟨(by omega), rfl⟩, ⟨rfl, rfl, rfl, rfl, rfl, rfl⟩, M⟩
    ·
      have h19p := of_decide_eq_false h19
      refine W.exit ?_
      refine thn_exit ?_
      refine thn_exit ?_
      refine inBlk_hit ?_
      refine W.seq' ?_
      refine W.region rfl ?_
      refine WL.step (v := acci_) rfl (Step.move rfl) ?_
      refine WL.step (v := acci_) rfl (Step.assign rfl) ?_
      refine WL.nil ?_
      refine W.ret ?_
      refine ⟨.inl rfl, acci_, ?_, ?_⟩
      · exact ⟨rfl, (Res.r1 (show RV _ _ _ (.tmp 2) acci_ from by exact rfl))⟩
      have e42 : canS l = (sortN cmpSt zs_ i_).take i_ := by
        rw [show i_ = zs_.length by omega, sortN_take]
        exact (all_canS hi5 hi6 (hi7 h10)).symm
      replace M := M.rechunk 0 (c' := own 62 2 acci_ ((canS l).length) ((canS l).flatMap spanE)) rfl (congrArg (fun z => own 62 2 acci_ z.length (z.flatMap spanE)) e42.symm)
      replace M : Mem _ _ _ [own 62 2 acci_ ((canS l).length) ((canS l).flatMap spanE)] [SlAt 2 zv_ zs_.length (zs_.flatMap spanE)] _ := M
      refine ⟨acci_, ?_, M.close [0] rfl (by decide) trivial⟩
      rfl
end Go.Proofs
