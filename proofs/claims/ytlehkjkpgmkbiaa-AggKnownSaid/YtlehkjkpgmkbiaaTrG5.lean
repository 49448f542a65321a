/- Walks. -/
import Derived.Test.YtlehkjkpgmkbiaaTrG4
set_option maxRecDepth 100000
set_option linter.all false
namespace Go.Proofs
open Go Tp
theorem Try.un105 : Und Try.prog 105 (.slice 115) := by unfold Und; kernel_rfl
theorem Try.ag115 : Aggr Try.prog 115 7 := ⟨fun _ => by kernel_rfl, fun _ => by kernel_rfl⟩
theorem Try.el115 : Elem Try.prog 115 (Value.agg #[(Value.string (⟨#[]⟩)), (Value.int .i64 0), (Value.int .i64 0), (Value.int .i64 0), (Value.int .i64 0), (Value.int .i64 0), (Value.int .i64 0)]) 7 64 := Elem.mk (by kernel_rfl)
theorem Try.en110 : Enters Try.prog 110 := fun _ _ => by kernel_rfl
theorem Try.en131 : Enters Try.prog 131 := fun _ _ => by kernel_rfl
theorem Try.en136 : Enters Try.prog 136 := fun _ _ => by kernel_rfl

theorem ins_false {G X : Nat → Prop} {w : World} (v : Value) (ys : List Row5) (a : Int) (n : Int)  (hn : n = ys.length) (hb : ys.length ≤ 1000000) (ha : decide ((a : Int) = 0) = true) (M : Mem G X w [own 115 7 v ys.length (ys.flatMap rowE)] [] w) : Rets Try.prog 136 #[v, (Value.int .i64 a), (Value.int .i64 n), (Value.func (.func 110) #[(Value.agg #[(Value.func (.func 64) #[] #[])])] #[])] w fun r w' => r = undef ∧ Mem G X w [own 115 7 v ((sortV (cmpRow false) ys).length) ((sortV (cmpRow false) ys).flatMap rowE)] [] w' := by
  refine Rets.enter 53 _ Try.func136 rfl Try.ntmps136 Try.results136 (by simp) ?_
  have sl1 : IsSl v := SlAt.isSl (own_slAt (Mem.chunk M 0 rfl).inv)
  have hle2 := SlAt.le' (own_slAt (Mem.chunk M 0 rfl).inv)
  have ha1 := of_decide_eq_true ha
  refine W.seq' ?_
  refine W.region rfl ?_
  refine WL.step (v := (Value.int .i64 a)) rfl (Step.move rfl) ?_
  refine WL.step (v := (Value.int .i64 1)) rfl (Step.cast (congrArg (Value.int .i64) (show a + 1 = 1 by omega)) (Step.add rfl rfl (wrap_i64 (by omega)))) ?_
  refine WL.step (v := (Value.int .i64 1)) rfl (Step.assign rfl) ?_
  refine WL.nil ?_
  refine W.block ?_
  replace M := M.rechunk 0 (c' := own 115 7 v ((sortN (cmpRow false) ys 1).length) ((sortN (cmpRow false) ys 1).flatMap rowE)) rfl (by rw [sortN_one])
  replace M : Mem _ _ _ [own 115 7 v ((sortN (cmpRow false) ys 1).length) ((sortN (cmpRow false) ys 1).flatMap rowE)] [] _ := M
  replace M := M.sel (L' := [own 115 7 v ((sortN (cmpRow false) ys 1).length) ((sortN (cmpRow false) ys 1).flatMap rowE)]) [0] rfl (by decide)
  replace M : Mem _ _ _ [own 115 7 v ((sortN (cmpRow false) ys 1).length) ((sortN (cmpRow false) ys 1).flatMap rowE)] [] _ := M
  refine W.loop (fun kk ρ w' => ∃ (i_ : Nat), ((1 ≤ i_) ∧ (i_ ≤ ys.length + 1) ∧ kk = ys.length + 1 - i_) ∧ ρ.has [(0, v), (1, (Value.int .i64 a)), (2, (Value.int .i64 n)), (3, (Value.func (.func 110) #[(Value.agg #[(Value.func (.func 64) #[] #[])])] #[])), (8, (Value.int .i64 ↑i_))] ∧ Mem G X w [own 115 7 v ((sortN (cmpRow false) ys i_).length) ((sortN (cmpRow false) ys i_).flatMap rowE)] []  w') _ ⟨1, ⟨(Nat.le_refl _), (by omega), rfl⟩, ⟨rfl, rfl, rfl, rfl, rfl, rfl, rfl⟩, M⟩ ?_
  rintro _ ρ4 w3 ⟨i_, ⟨hi5, hi6, rfl⟩, hρ, M⟩
  obtain ⟨ρ4, rfl⟩ := hρ.know
  clear hρ
  have hsl_ := sortN_len (cmpRow false) ys i_
  refine W.seq' ?_
  refine W.seq' ?_
  refine W.region rfl ?_
  refine WL.step (v := (Value.int .i64 ↑i_)) rfl (Step.move rfl) ?_
  refine WL.step (v := (Value.int .i64 n)) rfl (Step.move rfl) ?_
  refine WL.step (v := (Value.bool (decide ((↑i_ : Int) < (n : Int))))) rfl (Step.pure (by kernel_rfl)) ?_
  refine WL.nil ?_
  refine W.cond (t := decide ((↑i_ : Int) < (n : Int))) rfl (fun h7 => ?_) (fun h7 => ?_)
  ·
    have h7p := of_decide_eq_true h7
    refine W.skip ?_
    refine W.seq' ?_
    refine W.block ?_
    refine W.seq' ?_
    refine W.region rfl ?_
    refine WL.step (v := (Value.int .i64 ↑i_)) rfl (Step.move rfl) ?_
    refine WL.step (v := (Value.int .i64 ↑i_)) rfl (Step.assign rfl) ?_
    refine WL.nil ?_
    refine W.block ?_
    replace M := M.sel (L' := [own 115 7 v ((sortN (cmpRow false) ys i_).length) ((sortN (cmpRow false) ys i_).flatMap rowE)]) [0] rfl (by decide)
    replace M : Mem _ _ _ [own 115 7 v ((sortN (cmpRow false) ys i_).length) ((sortN (cmpRow false) ys i_).flatMap rowE)] [] _ := M
    refine W.loop (fun kk ρ w' => ∃ (j_ : Nat) (zs_ : List Row5), ((j_ ≤ i_) ∧ (zs_.length = ys.length) ∧ (bub (cmpRow false) zs_ j_ = sortN (cmpRow false) ys (i_ + 1)) ∧ kk = j_ + 1) ∧ ρ.has [(0, v), (1, (Value.int .i64 a)), (2, (Value.int .i64 n)), (3, (Value.func (.func 110) #[(Value.agg #[(Value.func (.func 64) #[] #[])])] #[])), (8, (Value.int .i64 ↑i_)), (9, (Value.int .i64 ↑j_)), (12, (Value.int .i64 ↑i_)), (13, (Value.int .i64 n)), (14, (Value.bool (decide ((↑i_ : Int) < (n : Int))))), (17, (Value.int .i64 ↑i_))] ∧ Mem G X w [own 115 7 v zs_.length (zs_.flatMap rowE)] []  w') _ ⟨i_, sortN (cmpRow false) ys i_, ⟨(Nat.le_refl _), (sortN_len _ _ _), rfl, rfl⟩, ⟨rfl, rfl, rfl, rfl, rfl, rfl, rfl, rfl, rfl, rfl, rfl, rfl⟩, M⟩ ?_
    rintro _ ρ9 w8 ⟨j_, zs_, ⟨hi10, hi11, hi12, rfl⟩, hρ, M⟩
    obtain ⟨ρ9, rfl⟩ := hρ.know
    clear hρ
    refine W.seq' ?_
    refine W.seq' ?_
    rcases Bool.eq_false_or_eq_true (decide ((↑j_ : Int) > (a : Int))) with h13 | h13
    ·
      have h13p := of_decide_eq_true h13
      obtain ⟨cap15, hb14⟩ := SlAt.base (own_slAt (M.chunk 0 rfl).inv) (by omega)
      obtain ⟨x16, hx16⟩ := elem_of_lt (xs := zs_) (i := j_) (by omega)
      obtain ⟨x17, hx17⟩ := elem_of_lt (xs := zs_) (i := j_ - 1) (by omega)
      refine W.drawn M [0, 1, 2, 3, 4, 5, 6, 7, 8, 9, 10, 11, 12, 13, 14, 15, 16] [14] [] [own 115 7 v zs_.length (zs_.flatMap rowE)] [] (List.Sublist.cons_cons _ List.Sublist.slnil) (fun _ h => h) Try.mixed (by kernel_rfl) ?_
      refine TW.pure (v := (Value.int .i64 ↑j_)) rfl (by decide) (by decide) rfl (fun w => (Step.move rfl)) ?_
      refine TW.pure (v := (Value.int .i64 a)) rfl (by decide) (by decide) rfl (fun w => (Step.move rfl)) ?_
      refine TW.pure (v := (Value.bool true)) rfl (by decide) (by decide) rfl (fun w => (Step.cast (congrArg Value.bool h13) (Step.pure (by kernel_rfl)))) ?_
      refine TW.pure (v := (Value.bool true)) rfl (by decide) (by decide) rfl (fun w => (Step.move rfl)) ?_
      refine TW.pure (v := (Value.func (.func 110) #[(Value.agg #[(Value.func (.func 64) #[] #[])])] #[])) rfl (by decide) (by decide) rfl (fun w => (Step.move rfl)) ?_
      refine TW.pure (v := v) rfl (by decide) (by decide) rfl (fun w => (Step.move rfl)) ?_
      refine TW.pure (v := (Value.int .i64 ↑j_)) rfl (by decide) (by decide) rfl (fun w => (Step.move rfl)) ?_
      refine TW.pure (v := (Value.pointer (some ⟨(sBlk v), sOff v + j_ * 7, none⟩))) rfl (by decide) (by decide) rfl (fun w => (Step.indexAddr (i := j_) (Try.un105).run Try.el115.sized rfl rfl (by omega) hb14 (by omega))) ?_
      refine TW.read (v := (Value.agg #[(Value.string x16.pane.key), (Value.int .i64 x16.pane.start), (Value.int .i64 x16.pane.fin), (Value.int .i64 x16.agg.count), (Value.int .i64 x16.agg.sum), (Value.int .i64 x16.agg.min), (Value.int .i64 x16.agg.max)])) rfl (by decide) (by decide) rfl (fun A w M => (Step.loadEN (k := 0) (cs' := [(Value.string x16.pane.key), (Value.int .i64 x16.pane.start), (Value.int .i64 x16.pane.fin), (Value.int .i64 x16.agg.count), (Value.int .i64 x16.agg.sum), (Value.int .i64 x16.agg.min), (Value.int .i64 x16.agg.max)]) Try.ag115 (flat_ec (own_slAt (M.chunk 1 rfl).inv) hx16 rowE_len) (by decide) rfl rfl rfl)) ?_
      refine TW.pure (v := v) rfl (by decide) (by decide) rfl (fun w => (Step.move rfl)) ?_
      refine TW.pure (v := (Value.int .i64 ↑j_)) rfl (by decide) (by decide) rfl (fun w => (Step.move rfl)) ?_
      refine TW.pure (v := (Value.int .i64 (↑(j_ - 1)))) rfl (by decide) (by decide) rfl (fun w => (Step.cast (congrArg (Value.int .i64) (show (↑j_ : Int) - 1 = ↑(j_ - 1) by omega)) (Step.sub rfl rfl (wrap_i64 (by omega))))) ?_
      refine TW.pure (v := (Value.pointer (some ⟨(sBlk v), sOff v + (j_ - 1) * 7, none⟩))) rfl (by decide) (by decide) rfl (fun w => (Step.indexAddr (i := j_ - 1) (Try.un105).run Try.el115.sized rfl rfl (by omega) hb14 (by omega))) ?_
      refine TW.read (v := (Value.agg #[(Value.string x17.pane.key), (Value.int .i64 x17.pane.start), (Value.int .i64 x17.pane.fin), (Value.int .i64 x17.agg.count), (Value.int .i64 x17.agg.sum), (Value.int .i64 x17.agg.min), (Value.int .i64 x17.agg.max)])) rfl (by decide) (by decide) rfl (fun A w M => (Step.loadEN (k := 0) (cs' := [(Value.string x17.pane.key), (Value.int .i64 x17.pane.start), (Value.int .i64 x17.pane.fin), (Value.int .i64 x17.agg.count), (Value.int .i64 x17.agg.sum), (Value.int .i64 x17.agg.min), (Value.int .i64 x17.agg.max)]) Try.ag115 (flat_ec (own_slAt (M.chunk 1 rfl).inv) hx17 rowE_len) (by decide) rfl rfl rfl)) ?_
      refine TW.callX (ι := Unit) (fun jx v_ => v_ = (Value.int .i64 (cmpRow false x16 x17))) (fun jx => [own 115 7 v zs_.length (zs_.flatMap rowE)]) (fun jx => []) rfl (by decide) rfl (fun jx => (List.Sublist.cons_cons _ List.Sublist.slnil)) (fun jx r h => h) (fun A w M => Rets.mono (cmp_false x16 x17 (M.enterW0 trivial)) (fun v_ w_ ⟨e_, m⟩ => ⟨(), e_, (M.leaveW0 m).sel (L' := [fl A, own 115 7 v zs_.length (zs_.flatMap rowE)]) [0, 1] rfl (by decide), fun b hb => M.keptW0 m (fl A) (List.mem_cons_self ..) b hb⟩)) (fun w => CallsF.value Try.en110 rfl rfl rfl) (fun jx v hp hin => ?_)
      replace hp := hp.symm; subst hp
      clear hin
      change TW _ _ _ _ _ _ _ _ (MemA _ _ _ [own 115 7 v zs_.length (zs_.flatMap rowE)] [])
      refine TW.pure (v := (Value.bool (decide ((cmpRow false x16 x17 : Int) < (0 : Int))))) rfl (by decide) (by decide) rfl (fun w => (Step.pure (by kernel_rfl))) ?_
      refine TW.pure (v := (Value.bool (decide ((cmpRow false x16 x17 : Int) < (0 : Int))))) rfl (by decide) (by decide) rfl (fun w => (Step.pick (t := true) rfl rfl)) ?_
      refine TW.done (fun w18 M => ?_)
      refine W.cond (t := decide ((cmpRow false x16 x17 : Int) < (0 : Int))) rfl (fun h19 => ?_) (fun h19 => ?_)
      ·
        have h19p := of_decide_eq_true h19
        refine W.skip ?_
        refine W.seq' ?_
        refine W.block ?_
        refine W.drawn M [0, 1, 2, 3, 4, 5, 6, 7, 8, 9, 10, 11, 12, 13, 14, 15, 16, 17] [9, 13, 15, 17] [9, 13] [] [] (List.Sublist.cons _ List.Sublist.slnil) (fun _ h => h) Try.mixed (by kernel_rfl) ?_
        refine TW.pure (v := v) rfl (by decide) (by decide) rfl (fun w => (Step.move rfl)) ?_
        refine TW.pure (v := (Value.int .i64 ↑j_)) rfl (by decide) (by decide) rfl (fun w => (Step.move rfl)) ?_
        refine TW.pure (v := v) rfl (by decide) (by decide) rfl (fun w => (Step.move rfl)) ?_
        refine TW.pure (v := (Value.int .i64 ↑j_)) rfl (by decide) (by decide) rfl (fun w => (Step.move rfl)) ?_
        refine TW.pure (v := (Value.int .i64 (↑(j_ - 1)))) rfl (by decide) (by decide) rfl (fun w => (Step.cast (congrArg (Value.int .i64) (show (↑j_ : Int) - 1 = ↑(j_ - 1) by omega)) (Step.sub rfl rfl (wrap_i64 (by omega))))) ?_
        refine TW.pure (v := v) rfl (by decide) (by decide) rfl (fun w => (Step.move rfl)) ?_
        refine TW.pure (v := (Value.int .i64 ↑j_)) rfl (by decide) (by decide) rfl (fun w => (Step.move rfl)) ?_
        refine TW.pure (v := (Value.int .i64 (↑(j_ - 1)))) rfl (by decide) (by decide) rfl (fun w => (Step.cast (congrArg (Value.int .i64) (show (↑j_ : Int) - 1 = ↑(j_ - 1) by omega)) (Step.sub rfl rfl (wrap_i64 (by omega))))) ?_
        refine TW.pure (v := (Value.pointer (some ⟨(sBlk v), sOff v + (j_ - 1) * 7, none⟩))) rfl (by decide) (by decide) rfl (fun w => (Step.indexAddr (i := j_ - 1) (Try.un105).run Try.el115.sized rfl rfl (by omega) hb14 (by omega))) ?_
        refine TW.readP (v := (Value.agg #[(Value.string x17.pane.key), (Value.int .i64 x17.pane.start), (Value.int .i64 x17.pane.fin), (Value.int .i64 x17.agg.count), (Value.int .i64 x17.agg.sum), (Value.int .i64 x17.agg.min), (Value.int .i64 x17.agg.max)])) rfl (by decide) (by decide) rfl (fun A w M => (Step.loadEN (k := 0) (cs' := [(Value.string x17.pane.key), (Value.int .i64 x17.pane.start), (Value.int .i64 x17.pane.fin), (Value.int .i64 x17.agg.count), (Value.int .i64 x17.agg.sum), (Value.int .i64 x17.agg.min), (Value.int .i64 x17.agg.max)]) Try.ag115 (flat_ec (own_slAt (M.chunk 1 rfl).inv) hx17 rowE_len) (by decide) rfl rfl rfl)) ?_
        refine TW.pure (v := v) rfl (by decide) (by decide) rfl (fun w => (Step.move rfl)) ?_
        refine TW.pure (v := (Value.int .i64 ↑j_)) rfl (by decide) (by decide) rfl (fun w => (Step.move rfl)) ?_
        refine TW.pure (v := (Value.pointer (some ⟨(sBlk v), sOff v + j_ * 7, none⟩))) rfl (by decide) (by decide) rfl (fun w => (Step.indexAddr (i := j_) (Try.un105).run Try.el115.sized rfl rfl (by omega) hb14 (by omega))) ?_
        refine TW.readP (v := (Value.agg #[(Value.string x16.pane.key), (Value.int .i64 x16.pane.start), (Value.int .i64 x16.pane.fin), (Value.int .i64 x16.agg.count), (Value.int .i64 x16.agg.sum), (Value.int .i64 x16.agg.min), (Value.int .i64 x16.agg.max)])) rfl (by decide) (by decide) rfl (fun A w M => (Step.loadEN (k := 0) (cs' := [(Value.string x16.pane.key), (Value.int .i64 x16.pane.start), (Value.int .i64 x16.pane.fin), (Value.int .i64 x16.agg.count), (Value.int .i64 x16.agg.sum), (Value.int .i64 x16.agg.min), (Value.int .i64 x16.agg.max)]) Try.ag115 (flat_ec (own_slAt (M.chunk 1 rfl).inv) hx16 rowE_len) (by decide) rfl rfl rfl)) ?_
        refine TW.pure (v := (Value.pointer (some ⟨(sBlk v), sOff v + j_ * 7, none⟩))) rfl (by decide) (by decide) rfl (fun w => (Step.indexAddr (i := j_) (Try.un105).run Try.el115.sized rfl rfl (by omega) hb14 (by omega))) ?_
        refine TW.act (c' := own 115 7 v ((zs_.set j_ x17).length) ((zs_.set j_ x17).flatMap rowE)) 0 rfl rfl (by decide) rfl (List.Sublist.cons _ List.Sublist.slnil) (fun r h => h) (fun A w M => M.storeF rowE_len x17 1 rfl Try.el115.sized rfl rfl rfl (cel_cons rfl (cel_cons rfl (cel_cons rfl (cel_cons rfl (cel_cons rfl (cel_cons rfl (cel_cons rfl cel_nil))))))) (by first | omega | (simp only [List.length_set]; omega))) ?_
        refine TW.pure (v := (Value.pointer (some ⟨(sBlk v), sOff v + (j_ - 1) * 7, none⟩))) rfl (by decide) (by decide) rfl (fun w => (Step.indexAddr (i := j_ - 1) (Try.un105).run Try.el115.sized rfl rfl (by omega) hb14 (by omega))) ?_
        refine TW.act (c' := own 115 7 v (((zs_.set j_ x17).set (j_ - 1) x16).length) (((zs_.set j_ x17).set (j_ - 1) x16).flatMap rowE)) 0 rfl rfl (by decide) rfl (List.Sublist.cons _ List.Sublist.slnil) (fun r h => h) (fun A w M => M.storeF rowE_len x16 1 rfl Try.el115.sized rfl rfl rfl (cel_cons rfl (cel_cons rfl (cel_cons rfl (cel_cons rfl (cel_cons rfl (cel_cons rfl (cel_cons rfl cel_nil))))))) (by first | omega | (simp only [List.length_set]; omega))) ?_
        refine TW.done (fun w20 M => ?_)
        refine W.region rfl ?_
        refine WL.step (v := (Value.int .i64 ↑j_)) rfl (Step.move rfl) ?_
        refine WL.step (v := (Value.int .i64 (↑(j_ - 1)))) rfl (Step.cast (congrArg (Value.int .i64) (show (↑j_ : Int) - 1 = ↑(j_ - 1) by omega)) (Step.sub rfl rfl (wrap_i64 (by omega)))) ?_
        refine WL.step (v := (Value.int .i64 (↑(j_ - 1)))) rfl (Step.assign rfl) ?_
        refine WL.nil ?_
        exact ⟨_, (by omega), j_ - 1, (zs_.set j_ x17).set (j_ - 1) x16, ⟨(by omega), (by simp only [List.length_set]; exact hi11), (by rw [← bub_go (cmpRow false) (by omega) hx16 hx17 h19p]; exact hi12), rfl⟩, ⟨rfl, rfl, rfl, rfl, rfl, rfl, rfl, rfl, rfl, rfl, rfl, rfl⟩, M⟩
      ·
        have h19p := of_decide_eq_false h19
        refine W.exit ?_
        refine thn_exit ?_
        refine thn_exit ?_
        refine inBlk_hit ?_
        refine W.region rfl ?_
        refine WL.step (v := (Value.int .i64 ↑i_)) rfl (Step.move rfl) ?_
        refine WL.step (v := (Value.int .i64 (↑i_ + 1))) rfl (Step.add rfl rfl (wrap_i64 (by omega))) ?_
        refine WL.step (v := (Value.int .i64 (↑i_ + 1))) rfl (Step.assign rfl) ?_
        refine WL.nil ?_
        replace M := M.rechunk 0 (c' := own 115 7 v ((sortN (cmpRow false) ys (i_ + 1)).length) ((sortN (cmpRow false) ys (i_ + 1)).flatMap rowE)) rfl (by rw [← hi12, bub_stop (cmpRow false) (by omega) hx16 hx17 h19p])
        replace M : Mem _ _ _ [own 115 7 v ((sortN (cmpRow false) ys (i_ + 1)).length) ((sortN (cmpRow false) ys (i_ + 1)).flatMap rowE)] [] _ := M
        exact ⟨_, (by omega), i_ + 1, ⟨(by omega), (by omega), rfl⟩, ⟨rfl, rfl, rfl, rfl, rfl, rfl, rfl⟩, M⟩
    ·
      have h13p := of_decide_eq_false h13
      refine W.drawn M [0, 1, 2, 3, 4, 5, 6, 7, 8, 9, 10, 11, 12, 13, 14, 15, 16] [14] [] [own 115 7 v zs_.length (zs_.flatMap rowE)] [] (List.Sublist.cons_cons _ List.Sublist.slnil) (fun _ h => h) Try.mixed (by kernel_rfl) ?_
      refine TW.pure (v := (Value.int .i64 ↑j_)) rfl (by decide) (by decide) rfl (fun w => (Step.move rfl)) ?_
      refine TW.pure (v := (Value.int .i64 a)) rfl (by decide) (by decide) rfl (fun w => (Step.move rfl)) ?_
      refine TW.pure (v := (Value.bool false)) rfl (by decide) (by decide) rfl (fun w => (Step.cast (congrArg Value.bool h13) (Step.pure (by kernel_rfl)))) ?_
      refine TW.pure (v := (Value.bool false)) rfl (by decide) (by decide) rfl (fun w => (Step.move rfl)) ?_
      refine TW.skip rfl rfl ?_
      refine TW.skip rfl rfl ?_
      refine TW.skip rfl rfl ?_
      refine TW.skip rfl rfl ?_
      refine TW.skip rfl rfl ?_
      refine TW.skip rfl rfl ?_
      refine TW.skip rfl rfl ?_
      refine TW.skip rfl rfl ?_
      refine TW.skip rfl rfl ?_
      refine TW.skip rfl rfl ?_
      refine TW.skip rfl rfl ?_
      refine TW.skip rfl rfl ?_
      refine TW.pure (v := (Value.bool false)) rfl (by decide) (by decide) rfl (fun w => (Step.pick (t := false) rfl rfl)) ?_
      refine TW.done (fun w21 M => ?_)
      refine W.cond (t := false) rfl (fun h => by cases h) (fun _ => ?_)
      refine W.exit ?_
      refine thn_exit ?_
      refine thn_exit ?_
      refine inBlk_hit ?_
      refine W.region rfl ?_
      refine WL.step (v := (Value.int .i64 ↑i_)) rfl (Step.move rfl) ?_
      refine WL.step (v := (Value.int .i64 (↑i_ + 1))) rfl (Step.add rfl rfl (wrap_i64 (by omega))) ?_
      refine WL.step (v := (Value.int .i64 (↑i_ + 1))) rfl (Step.assign rfl) ?_
      refine WL.nil ?_
      replace M := M.rechunk 0 (c' := own 115 7 v ((sortN (cmpRow false) ys (i_ + 1)).length) ((sortN (cmpRow false) ys (i_ + 1)).flatMap rowE)) rfl (by rw [← hi12, show j_ = 0 by omega, bub_zero])
      replace M : Mem _ _ _ [own 115 7 v ((sortN (cmpRow false) ys (i_ + 1)).length) ((sortN (cmpRow false) ys (i_ + 1)).flatMap rowE)] [] _ := M
      exact ⟨_, (by omega), i_ + 1, ⟨(by omega), (by omega), rfl⟩, ⟨rfl, rfl, rfl, rfl, rfl, rfl, rfl⟩, M⟩
  ·
    have h7p := of_decide_eq_false h7
    refine W.exit ?_
    refine thn_exit ?_
    refine thn_exit ?_
    refine inBlk_hit ?_
    refine ⟨.inr rfl, undef, ?_, ?_⟩
    · exact ⟨rfl, Res.none⟩
    have e22 : sortV (cmpRow false) ys = sortN (cmpRow false) ys i_ := by
      exact (sortN_over (cmpRow false) (by omega)).symm
    replace M := M.rechunk 0 (c' := own 115 7 v ((sortV (cmpRow false) ys).length) ((sortV (cmpRow false) ys).flatMap rowE)) rfl (congrArg (fun z => own 115 7 v z.length (z.flatMap rowE)) e22.symm)
    replace M : Mem _ _ _ [own 115 7 v ((sortV (cmpRow false) ys).length) ((sortV (cmpRow false) ys).flatMap rowE)] [] _ := M
    refine ⟨?_, M.close [0] rfl (by decide) trivial⟩
    rfl

theorem ins0_false {G X : Nat → Prop} {w : World} (v : Value) (ys : List Row5) (a : Int) (n : Int)  (hn : n ≤ a + 1) (ha2 : 0 ≤ a ∧ a ≤ 1000) (ha : decide ((a : Int) = 0) = false) (M : Mem G X w [own 115 7 v ys.length (ys.flatMap rowE)] [] w) : Rets Try.prog 136 #[v, (Value.int .i64 a), (Value.int .i64 n), (Value.func (.func 110) #[(Value.agg #[(Value.func (.func 64) #[] #[])])] #[])] w fun r w' => r = undef ∧ Mem G X w [own 115 7 v ys.length (ys.flatMap rowE)] [] w' := by
  refine Rets.enter 53 _ Try.func136 rfl Try.ntmps136 Try.results136 (by simp) ?_
  have sl1 : IsSl v := SlAt.isSl (own_slAt (Mem.chunk M 0 rfl).inv)
  have hle2 := SlAt.le' (own_slAt (Mem.chunk M 0 rfl).inv)
  refine W.seq' ?_
  refine W.region rfl ?_
  refine WL.step (v := (Value.int .i64 a)) rfl (Step.move rfl) ?_
  refine WL.step (v := (Value.int .i64 (a + 1))) rfl (Step.add rfl rfl (wrap_i64 (by omega))) ?_
  refine WL.step (v := (Value.int .i64 (a + 1))) rfl (Step.assign rfl) ?_
  refine WL.nil ?_
  refine W.block ?_
  refine W.loop (fun kk ρ w' => (kk = 0) ∧ ρ.has [(0, v), (1, (Value.int .i64 a)), (2, (Value.int .i64 n)), (3, (Value.func (.func 110) #[(Value.agg #[(Value.func (.func 64) #[] #[])])] #[])), (8, (Value.int .i64 (a + 1)))] ∧ Mem G X w [own 115 7 v ys.length (ys.flatMap rowE)] []  w') _ ⟨rfl, ⟨rfl, rfl, rfl, rfl, rfl, rfl, rfl⟩, M⟩ ?_
  rintro _ ρ4 w3 ⟨rfl, hρ, M⟩
  obtain ⟨ρ4, rfl⟩ := hρ.know
  clear hρ
  refine W.seq' ?_
  refine W.seq' ?_
  refine W.region rfl ?_
  refine WL.step (v := (Value.int .i64 (a + 1))) rfl (Step.move rfl) ?_
  refine WL.step (v := (Value.int .i64 n)) rfl (Step.move rfl) ?_
  refine WL.step (v := (Value.bool (decide ((a + 1 : Int) < (n : Int))))) rfl (Step.pure (by kernel_rfl)) ?_
  refine WL.nil ?_
  refine W.cond (t := decide ((a + 1 : Int) < (n : Int))) rfl (fun h5 => ?_) (fun h5 => ?_)
  ·
    have h5p := of_decide_eq_true h5
    omega
  ·
    have h5p := of_decide_eq_false h5
    refine W.exit ?_
    refine thn_exit ?_
    refine thn_exit ?_
    refine inBlk_hit ?_
    refine ⟨.inr rfl, undef, ?_, ?_⟩
    · exact ⟨rfl, Res.none⟩
    refine ⟨?_, M.close [0] rfl (by decide) trivial⟩
    rfl

theorem stab_false {G X : Nat → Prop} {w : World} (v : Value) (ys : List Row5) (n : Int)  (hn : n = ys.length) (hb : ys.length ≤ 20) (M : Mem G X w [own 115 7 v ys.length (ys.flatMap rowE)] [] w) : Rets Try.prog 131 #[v, (Value.int .i64 n), (Value.func (.func 110) #[(Value.agg #[(Value.func (.func 64) #[] #[])])] #[])] w fun r w' => r = undef ∧ Mem G X w [own 115 7 v ((sortV (cmpRow false) ys).length) ((sortV (cmpRow false) ys).flatMap rowE)] [] w' := by
  refine Rets.enter 63 _ Try.func131 rfl Try.ntmps131 Try.results131 (by simp) ?_
  have sl1 : IsSl v := SlAt.isSl (own_slAt (Mem.chunk M 0 rfl).inv)
  have hle2 := SlAt.le' (own_slAt (Mem.chunk M 0 rfl).inv)
  refine W.seq' ?_
  refine W.region rfl ?_
  refine WL.step (v := (Value.int .i64 20)) rfl (Step.assign rfl) ?_
  refine WL.nil ?_
  refine W.seq' ?_
  refine W.region rfl ?_
  refine WL.step (v := (Value.int .i64 20)) rfl (Step.move rfl) ?_
  refine WL.step (v := (Value.int .i64 0)) rfl (Step.assign rfl) ?_
  refine WL.step (v := (Value.int .i64 20)) rfl (Step.assign rfl) ?_
  refine WL.nil ?_
  refine W.seq' ?_
  refine W.block ?_
  replace M := M.sel (L' := [own 115 7 v ys.length (ys.flatMap rowE)]) [0] rfl (by decide)
  replace M : Mem _ _ _ [own 115 7 v ys.length (ys.flatMap rowE)] [] _ := M
  refine W.loop (fun kk ρ w' => ∃ (q_ : Nat) (zs_ : List Row5), (((q_ = 0 ∧ zs_ = ys) ∨ (q_ = 1 ∧ ys.length = 20 ∧ zs_ = sortV (cmpRow false) ys)) ∧ kk = 1 - q_) ∧ ρ.has [(0, v), (1, (Value.int .i64 n)), (2, (Value.func (.func 110) #[(Value.agg #[(Value.func (.func 64) #[] #[])])] #[])), (6, (Value.int .i64 20)), (7, (Value.int .i64 (20 * ↑q_))), (8, (Value.int .i64 (20 * ↑q_ + 20)))] ∧ Mem G X w [own 115 7 v zs_.length (zs_.flatMap rowE)] []  w') _ ⟨0, ys, ⟨(.inl ⟨rfl, rfl⟩), rfl⟩, ⟨rfl, rfl, rfl, rfl, rfl, rfl, rfl, rfl⟩, M⟩ ?_
  rintro _ ρ4 w3 ⟨q_, zs_, ⟨hi5, rfl⟩, hρ, M⟩
  obtain ⟨ρ4, rfl⟩ := hρ.know
  clear hρ
  have hzl_ : zs_.length = ys.length ∧ q_ ≤ 1 := by rcases hi5 with ⟨e1, e2⟩ | ⟨e1, _, e2⟩ <;> simp [e1, e2, sortV_len]
  obtain ⟨hzl_, hq1_⟩ := hzl_
  refine W.seq' ?_
  refine W.seq' ?_
  refine W.region rfl ?_
  refine WL.step (v := (Value.int .i64 (20 * ↑q_ + 20))) rfl (Step.move rfl) ?_
  refine WL.step (v := (Value.int .i64 n)) rfl (Step.move rfl) ?_
  refine WL.step (v := (Value.bool (decide ((20 * ↑q_ + 20 : Int) ≤ (n : Int))))) rfl (Step.pure (by kernel_rfl)) ?_
  refine WL.nil ?_
  refine W.cond (t := decide ((20 * ↑q_ + 20 : Int) ≤ (n : Int))) rfl (fun h6 => ?_) (fun h6 => ?_)
  ·
    have h6p := of_decide_eq_true h6
    refine W.skip ?_
    refine W.block ?_
    refine W.seq' ?_
    refine W.region rfl ?_
    refine WL.step (v := v) rfl (Step.move rfl) ?_
    refine WL.step (v := (Value.int .i64 0)) rfl (Step.cast (congrArg (Value.int .i64) (show (20 * ↑q_ : Int) = 0 by omega)) (Step.move rfl)) ?_
    refine WL.step (v := (Value.int .i64 20)) rfl (Step.cast (congrArg (Value.int .i64) (show (20 * ↑q_ + 20 : Int) = 20 by omega)) (Step.move rfl)) ?_
    refine WL.step (v := (Value.func (.func 110) #[(Value.agg #[(Value.func (.func 64) #[] #[])])] #[])) rfl (Step.move rfl) ?_
    refine WL.callX rfl (ins_false v zs_ 0 20 (by omega) (by first | omega | assumption | decide | (simp only [List.length_nil, List.length_cons, List.length_take, List.length_drop]; omega)) (show decide ((0 : Int) = 0) = true by rfl) (M.enterW (C := [own 115 7 v zs_.length (zs_.flatMap rowE)]) (D := []) [0] rfl (by decide) trivial)) (CallsF.func Try.en136 rfl) ?_
    rintro _ w7 ⟨rfl, m⟩
    replace M := M.leaveW (C := [own 115 7 v zs_.length (zs_.flatMap rowE)]) (D := []) [0] rfl (by decide) m
    clear m
    replace M : Mem _ _ _ [own 115 7 v ((sortV (cmpRow false) zs_).length) ((sortV (cmpRow false) zs_).flatMap rowE)] [] _ := M
    have hle8 := SlAt.le' (own_slAt (Mem.chunk M 0 rfl).inv)
    refine WL.nil ?_
    refine W.seq' ?_
    refine W.region rfl ?_
    refine WL.step (v := (Value.int .i64 20)) rfl (Step.cast (congrArg (Value.int .i64) (show (20 * ↑q_ + 20 : Int) = 20 by omega)) (Step.move rfl)) ?_
    refine WL.step (v := (Value.int .i64 20)) rfl (Step.assign rfl) ?_
    refine WL.nil ?_
    refine W.region rfl ?_
    refine WL.step (v := (Value.int .i64 20)) rfl (Step.cast (congrArg (Value.int .i64) (show (20 * ↑q_ + 20 : Int) = 20 by omega)) (Step.move rfl)) ?_
    refine WL.step (v := (Value.int .i64 20)) rfl (Step.move rfl) ?_
    refine WL.step (v := (Value.int .i64 40)) rfl (Step.pure (by kernel_rfl)) ?_
    refine WL.step (v := (Value.int .i64 40)) rfl (Step.assign rfl) ?_
    refine WL.nil ?_
    exact ⟨_, (by omega), 1, sortV (cmpRow false) zs_, ⟨(hi5.elim (fun ⟨e1, e2⟩ => .inr ⟨rfl, by omega, by rw [e2]⟩) (fun ⟨e1, _, e2⟩ => absurd e1 (by omega))), rfl⟩, ⟨rfl, rfl, rfl, rfl, rfl, rfl, rfl, rfl⟩, M⟩
  ·
    have h6p := of_decide_eq_false h6
    refine W.exit ?_
    refine thn_exit ?_
    refine thn_exit ?_
    refine inBlk_hit ?_
    refine W.seq' ?_
    refine W.region rfl ?_
    refine WL.step (v := v) rfl (Step.move rfl) ?_
    refine WL.step (v := (Value.int .i64 (20 * ↑q_))) rfl (Step.move rfl) ?_
    refine WL.step (v := (Value.int .i64 n)) rfl (Step.move rfl) ?_
    refine WL.step (v := (Value.func (.func 110) #[(Value.agg #[(Value.func (.func 64) #[] #[])])] #[])) rfl (Step.move rfl) ?_
    rcases Bool.eq_false_or_eq_true (decide (((20 * ↑q_) : Int) = 0)) with h9 | h9
    ·
      have h9p := of_decide_eq_true h9
      refine WL.callX rfl (ins_false v zs_ (20 * ↑q_) n (by omega) (by first | omega | assumption | decide | (simp only [List.length_nil, List.length_cons, List.length_take, List.length_drop]; omega)) h9 (M.enterW (C := [own 115 7 v zs_.length (zs_.flatMap rowE)]) (D := []) [0] rfl (by decide) trivial)) (CallsF.func Try.en136 rfl) ?_
      rintro _ w10 ⟨rfl, m⟩
      replace M := M.leaveW (C := [own 115 7 v zs_.length (zs_.flatMap rowE)]) (D := []) [0] rfl (by decide) m
      clear m
      replace M : Mem _ _ _ [own 115 7 v ((sortV (cmpRow false) zs_).length) ((sortV (cmpRow false) zs_).flatMap rowE)] [] _ := M
      have hle11 := SlAt.le' (own_slAt (Mem.chunk M 0 rfl).inv)
      refine WL.nil ?_
      refine W.block ?_
      refine W.loop (fun kk ρ w' => (kk = 0) ∧ ρ.has [(0, v), (1, (Value.int .i64 n)), (2, (Value.func (.func 110) #[(Value.agg #[(Value.func (.func 64) #[] #[])])] #[])), (6, (Value.int .i64 20))] ∧ Mem G X w [own 115 7 v ((sortV (cmpRow false) zs_).length) ((sortV (cmpRow false) zs_).flatMap rowE)] []  w') _ ⟨rfl, ⟨rfl, rfl, rfl, rfl, rfl, rfl⟩, M⟩ ?_
      rintro _ ρ13 w12 ⟨rfl, hρ, M⟩
      obtain ⟨ρ13, rfl⟩ := hρ.know
      clear hρ
      refine W.seq' ?_
      refine W.seq' ?_
      refine W.region rfl ?_
      refine WL.step (v := (Value.int .i64 20)) rfl (Step.move rfl) ?_
      refine WL.step (v := (Value.int .i64 n)) rfl (Step.move rfl) ?_
      refine WL.step (v := (Value.bool (decide ((20 : Int) < (n : Int))))) rfl (Step.pure (by kernel_rfl)) ?_
      refine WL.nil ?_
      refine W.cond (t := decide ((20 : Int) < (n : Int))) rfl (fun h14 => ?_) (fun h14 => ?_)
      ·
        have h14p := of_decide_eq_true h14
        omega
      ·
        have h14p := of_decide_eq_false h14
        refine W.exit ?_
        refine thn_exit ?_
        refine thn_exit ?_
        refine inBlk_hit ?_
        refine ⟨.inr rfl, undef, ?_, ?_⟩
        · exact ⟨rfl, Res.none⟩
        have e15 : sortV (cmpRow false) ys = sortV (cmpRow false) zs_ := by
          rcases hi5 with ⟨e1, e2⟩ | ⟨e1, _, e2⟩ <;> first | (rw [e2]; done) | (exfalso; omega)
        replace M := M.rechunk 0 (c' := own 115 7 v ((sortV (cmpRow false) ys).length) ((sortV (cmpRow false) ys).flatMap rowE)) rfl (congrArg (fun z => own 115 7 v z.length (z.flatMap rowE)) e15.symm)
        replace M : Mem _ _ _ [own 115 7 v ((sortV (cmpRow false) ys).length) ((sortV (cmpRow false) ys).flatMap rowE)] [] _ := M
        refine ⟨?_, M.close [0] rfl (by decide) trivial⟩
        rfl
    ·
      have h9p := of_decide_eq_false h9
      refine WL.callX rfl (ins0_false v zs_ (20 * ↑q_) n (by omega) (by omega) h9 (M.enterW (C := [own 115 7 v zs_.length (zs_.flatMap rowE)]) (D := []) [0] rfl (by decide) trivial)) (CallsF.func Try.en136 rfl) ?_
      rintro _ w16 ⟨rfl, m⟩
      replace M := M.leaveW (C := [own 115 7 v zs_.length (zs_.flatMap rowE)]) (D := []) [0] rfl (by decide) m
      replace M := M.sel (L' := [own 115 7 v zs_.length (zs_.flatMap rowE)]) [0] rfl (by decide)
      clear m
      replace M : Mem _ _ _ [own 115 7 v zs_.length (zs_.flatMap rowE)] [] _ := M
      refine WL.nil ?_
      refine W.block ?_
      refine W.loop (fun kk ρ w' => (kk = 0) ∧ ρ.has [(0, v), (1, (Value.int .i64 n)), (2, (Value.func (.func 110) #[(Value.agg #[(Value.func (.func 64) #[] #[])])] #[])), (6, (Value.int .i64 20))] ∧ Mem G X w [own 115 7 v zs_.length (zs_.flatMap rowE)] []  w') _ ⟨rfl, ⟨rfl, rfl, rfl, rfl, rfl, rfl⟩, M⟩ ?_
      rintro _ ρ18 w17 ⟨rfl, hρ, M⟩
      obtain ⟨ρ18, rfl⟩ := hρ.know
      clear hρ
      refine W.seq' ?_
      refine W.seq' ?_
      refine W.region rfl ?_
      refine WL.step (v := (Value.int .i64 20)) rfl (Step.move rfl) ?_
      refine WL.step (v := (Value.int .i64 n)) rfl (Step.move rfl) ?_
      refine WL.step (v := (Value.bool (decide ((20 : Int) < (n : Int))))) rfl (Step.pure (by kernel_rfl)) ?_
      refine WL.nil ?_
      refine W.cond (t := decide ((20 : Int) < (n : Int))) rfl (fun h19 => ?_) (fun h19 => ?_)
      ·
        have h19p := of_decide_eq_true h19
        omega
      ·
        have h19p := of_decide_eq_false h19
        refine W.exit ?_
        refine thn_exit ?_
        refine thn_exit ?_
        refine inBlk_hit ?_
        refine ⟨.inr rfl, undef, ?_, ?_⟩
        · exact ⟨rfl, Res.none⟩
        have e20 : sortV (cmpRow false) ys = zs_ := by
          rcases hi5 with ⟨e1, e2⟩ | ⟨e1, _, e2⟩ <;> first | (rw [e2]; done) | (exfalso; omega)
        replace M := M.rechunk 0 (c' := own 115 7 v ((sortV (cmpRow false) ys).length) ((sortV (cmpRow false) ys).flatMap rowE)) rfl (congrArg (fun z => own 115 7 v z.length (z.flatMap rowE)) e20.symm)
        replace M : Mem _ _ _ [own 115 7 v ((sortV (cmpRow false) ys).length) ((sortV (cmpRow false) ys).flatMap rowE)] [] _ := M
        refine ⟨?_, M.close [0] rfl (by decide) trivial⟩
        rfl

theorem sstab_false {G X : Nat → Prop} {w : World} (v : Value) (ys : List Row5)  (hb : ys.length ≤ 20) (M : Mem G X w [own 115 7 v ys.length (ys.flatMap rowE)] [] w) : Rets Try.prog 109 #[v, (Value.func (.func 110) #[(Value.agg #[(Value.func (.func 64) #[] #[])])] #[])] w fun r w' => r = undef ∧ Mem G X w [own 115 7 v ((sortV (cmpRow false) ys).length) ((sortV (cmpRow false) ys).flatMap rowE)] [] w' := by
  refine Rets.enter 9 _ Try.func109 rfl Try.ntmps109 Try.results109 (by simp) ?_
  have sl1 : IsSl v := SlAt.isSl (own_slAt (Mem.chunk M 0 rfl).inv)
  have hle2 := SlAt.le' (own_slAt (Mem.chunk M 0 rfl).inv)
  refine W.region rfl ?_
  refine WL.step (v := v) rfl (Step.move rfl) ?_
  refine WL.step (v := v) rfl (Step.move rfl) ?_
  refine WL.step (v := (Value.int .i64 ↑ys.length)) rfl (Step.lenSl Try.un105 rfl (own_slAt (M.chunk 0 rfl).inv)) ?_
  refine WL.step (v := (Value.func (.func 110) #[(Value.agg #[(Value.func (.func 64) #[] #[])])] #[])) rfl (Step.move rfl) ?_
  refine WL.callX rfl (stab_false v ys ↑ys.length (by omega) (by first | omega | assumption) (M.enterW (C := [own 115 7 v ys.length (ys.flatMap rowE)]) (D := []) [0] rfl (by decide) trivial)) (CallsF.func Try.en131 rfl) ?_
  rintro _ w3 ⟨rfl, m⟩
  replace M := M.leaveW (C := [own 115 7 v ys.length (ys.flatMap rowE)]) (D := []) [0] rfl (by decide) m
  clear m
  replace M : Mem _ _ _ [own 115 7 v ((sortV (cmpRow false) ys).length) ((sortV (cmpRow false) ys).flatMap rowE)] [] _ := M
  have hle4 := SlAt.le' (own_slAt (Mem.chunk M 0 rfl).inv)
  refine WL.nil ?_
  refine ⟨.inr rfl, undef, ?_, ?_⟩
  · exact ⟨rfl, Res.none⟩
  refine ⟨?_, M.close [0] rfl (by decide) trivial⟩
  rfl

theorem ins_true {G X : Nat → Prop} {w : World} (v : Value) (ys : List Row5) (a : Int) (n : Int)  (hn : n = ys.length) (hb : ys.length ≤ 1000000) (ha : decide ((a : Int) = 0) = true) (M : Mem G X w [own 115 7 v ys.length (ys.flatMap rowE)] [] w) : Rets Try.prog 136 #[v, (Value.int .i64 a), (Value.int .i64 n), (Value.func (.func 110) #[(Value.agg #[(Value.func (.func 67) #[] #[])])] #[])] w fun r w' => r = undef ∧ Mem G X w [own 115 7 v ((sortV (cmpRow true) ys).length) ((sortV (cmpRow true) ys).flatMap rowE)] [] w' := by
  refine Rets.enter 53 _ Try.func136 rfl Try.ntmps136 Try.results136 (by simp) ?_
  have sl1 : IsSl v := SlAt.isSl (own_slAt (Mem.chunk M 0 rfl).inv)
  have hle2 := SlAt.le' (own_slAt (Mem.chunk M 0 rfl).inv)
  have ha1 := of_decide_eq_true ha
  refine W.seq' ?_
  refine W.region rfl ?_
  refine WL.step (v := (Value.int .i64 a)) rfl (Step.move rfl) ?_
  refine WL.step (v := (Value.int .i64 1)) rfl (Step.cast (congrArg (Value.int .i64) (show a + 1 = 1 by omega)) (Step.add rfl rfl (wrap_i64 (by omega)))) ?_
  refine WL.step (v := (Value.int .i64 1)) rfl (Step.assign rfl) ?_
  refine WL.nil ?_
  refine W.block ?_
  replace M := M.rechunk 0 (c' := own 115 7 v ((sortN (cmpRow true) ys 1).length) ((sortN (cmpRow true) ys 1).flatMap rowE)) rfl (by rw [sortN_one])
  replace M : Mem _ _ _ [own 115 7 v ((sortN (cmpRow true) ys 1).length) ((sortN (cmpRow true) ys 1).flatMap rowE)] [] _ := M
  replace M := M.sel (L' := [own 115 7 v ((sortN (cmpRow true) ys 1).length) ((sortN (cmpRow true) ys 1).flatMap rowE)]) [0] rfl (by decide)
  replace M : Mem _ _ _ [own 115 7 v ((sortN (cmpRow true) ys 1).length) ((sortN (cmpRow true) ys 1).flatMap rowE)] [] _ := M
  refine W.loop (fun kk ρ w' => ∃ (i_ : Nat), ((1 ≤ i_) ∧ (i_ ≤ ys.length + 1) ∧ kk = ys.length + 1 - i_) ∧ ρ.has [(0, v), (1, (Value.int .i64 a)), (2, (Value.int .i64 n)), (3, (Value.func (.func 110) #[(Value.agg #[(Value.func (.func 67) #[] #[])])] #[])), (8, (Value.int .i64 ↑i_))] ∧ Mem G X w [own 115 7 v ((sortN (cmpRow true) ys i_).length) ((sortN (cmpRow true) ys i_).flatMap rowE)] []  w') _ ⟨1, ⟨(Nat.le_refl _), (by omega), rfl⟩, ⟨rfl, rfl, rfl, rfl, rfl, rfl, rfl⟩, M⟩ ?_
  rintro _ ρ4 w3 ⟨i_, ⟨hi5, hi6, rfl⟩, hρ, M⟩
  obtain ⟨ρ4, rfl⟩ := hρ.know
  clear hρ
  have hsl_ := sortN_len (cmpRow true) ys i_
  refine W.seq' ?_
  refine W.seq' ?_
  refine W.region rfl ?_
  refine WL.step (v := (Value.int .i64 ↑i_)) rfl (Step.move rfl) ?_
  refine WL.step (v := (Value.int .i64 n)) rfl (Step.move rfl) ?_
  refine WL.step (v := (Value.bool (decide ((↑i_ : Int) < (n : Int))))) rfl (Step.pure (by kernel_rfl)) ?_
  refine WL.nil ?_
  refine W.cond (t := decide ((↑i_ : Int) < (n : Int))) rfl (fun h7 => ?_) (fun h7 => ?_)
  ·
    have h7p := of_decide_eq_true h7
    refine W.skip ?_
    refine W.seq' ?_
    refine W.block ?_
    refine W.seq' ?_
    refine W.region rfl ?_
    refine WL.step (v := (Value.int .i64 ↑i_)) rfl (Step.move rfl) ?_
    refine WL.step (v := (Value.int .i64 ↑i_)) rfl (Step.assign rfl) ?_
    refine WL.nil ?_
    refine W.block ?_
    replace M := M.sel (L' := [own 115 7 v ((sortN (cmpRow true) ys i_).length) ((sortN (cmpRow true) ys i_).flatMap rowE)]) [0] rfl (by decide)
    replace M : Mem _ _ _ [own 115 7 v ((sortN (cmpRow true) ys i_).length) ((sortN (cmpRow true) ys i_).flatMap rowE)] [] _ := M
    refine W.loop (fun kk ρ w' => ∃ (j_ : Nat) (zs_ : List Row5), ((j_ ≤ i_) ∧ (zs_.length = ys.length) ∧ (bub (cmpRow true) zs_ j_ = sortN (cmpRow true) ys (i_ + 1)) ∧ kk = j_ + 1) ∧ ρ.has [(0, v), (1, (Value.int .i64 a)), (2, (Value.int .i64 n)), (3, (Value.func (.func 110) #[(Value.agg #[(Value.func (.func 67) #[] #[])])] #[])), (8, (Value.int .i64 ↑i_)), (9, (Value.int .i64 ↑j_)), (12, (Value.int .i64 ↑i_)), (13, (Value.int .i64 n)), (14, (Value.bool (decide ((↑i_ : Int) < (n : Int))))), (17, (Value.int .i64 ↑i_))] ∧ Mem G X w [own 115 7 v zs_.length (zs_.flatMap rowE)] []  w') _ ⟨i_, sortN (cmpRow true) ys i_, ⟨(Nat.le_refl _), (sortN_len _ _ _), rfl, rfl⟩, ⟨rfl, rfl, rfl, rfl, rfl, rfl, rfl, rfl, rfl, rfl, rfl, rfl⟩, M⟩ ?_
    rintro _ ρ9 w8 ⟨j_, zs_, ⟨hi10, hi11, hi12, rfl⟩, hρ, M⟩
    obtain ⟨ρ9, rfl⟩ := hρ.know
    clear hρ
    refine W.seq' ?_
    refine W.seq' ?_
    rcases Bool.eq_false_or_eq_true (decide ((↑j_ : Int) > (a : Int))) with h13 | h13
    ·
      have h13p := of_decide_eq_true h13
      obtain ⟨cap15, hb14⟩ := SlAt.base (own_slAt (M.chunk 0 rfl).inv) (by omega)
      obtain ⟨x16, hx16⟩ := elem_of_lt (xs := zs_) (i := j_) (by omega)
      obtain ⟨x17, hx17⟩ := elem_of_lt (xs := zs_) (i := j_ - 1) (by omega)
      refine W.drawn M [0, 1, 2, 3, 4, 5, 6, 7, 8, 9, 10, 11, 12, 13, 14, 15, 16] [14] [] [own 115 7 v zs_.length (zs_.flatMap rowE)] [] (List.Sublist.cons_cons _ List.Sublist.slnil) (fun _ h => h) Try.mixed (by kernel_rfl) ?_
      refine TW.pure (v := (Value.int .i64 ↑j_)) rfl (by decide) (by decide) rfl (fun w => (Step.move rfl)) ?_
      refine TW.pure (v := (Value.int .i64 a)) rfl (by decide) (by decide) rfl (fun w => (Step.move rfl)) ?_
      refine TW.pure (v := (Value.bool true)) rfl (by decide) (by decide) rfl (fun w => (Step.cast (congrArg Value.bool h13) (Step.pure (by kernel_rfl)))) ?_
      refine TW.pure (v := (Value.bool true)) rfl (by decide) (by decide) rfl (fun w => (Step.move rfl)) ?_
      refine TW.pure (v := (Value.func (.func 110) #[(Value.agg #[(Value.func (.func 67) #[] #[])])] #[])) rfl (by decide) (by decide) rfl (fun w => (Step.move rfl)) ?_
      refine TW.pure (v := v) rfl (by decide) (by decide) rfl (fun w => (Step.move rfl)) ?_
      refine TW.pure (v := (Value.int .i64 ↑j_)) rfl (by decide) (by decide) rfl (fun w => (Step.move rfl)) ?_
      refine TW.pure (v := (Value.pointer (some ⟨(sBlk v), sOff v + j_ * 7, none⟩))) rfl (by decide) (by decide) rfl (fun w => (Step.indexAddr (i := j_) (Try.un105).run Try.el115.sized rfl rfl (by omega) hb14 (by omega))) ?_
      refine TW.read (v := (Value.agg #[(Value.string x16.pane.key), (Value.int .i64 x16.pane.start), (Value.int .i64 x16.pane.fin), (Value.int .i64 x16.agg.count), (Value.int .i64 x16.agg.sum), (Value.int .i64 x16.agg.min), (Value.int .i64 x16.agg.max)])) rfl (by decide) (by decide) rfl (fun A w M => (Step.loadEN (k := 0) (cs' := [(Value.string x16.pane.key), (Value.int .i64 x16.pane.start), (Value.int .i64 x16.pane.fin), (Value.int .i64 x16.agg.count), (Value.int .i64 x16.agg.sum), (Value.int .i64 x16.agg.min), (Value.int .i64 x16.agg.max)]) Try.ag115 (flat_ec (own_slAt (M.chunk 1 rfl).inv) hx16 rowE_len) (by decide) rfl rfl rfl)) ?_
      refine TW.pure (v := v) rfl (by decide) (by decide) rfl (fun w => (Step.move rfl)) ?_
      refine TW.pure (v := (Value.int .i64 ↑j_)) rfl (by decide) (by decide) rfl (fun w => (Step.move rfl)) ?_
      refine TW.pure (v := (Value.int .i64 (↑(j_ - 1)))) rfl (by decide) (by decide) rfl (fun w => (Step.cast (congrArg (Value.int .i64) (show (↑j_ : Int) - 1 = ↑(j_ - 1) by omega)) (Step.sub rfl rfl (wrap_i64 (by omega))))) ?_
      refine TW.pure (v := (Value.pointer (some ⟨(sBlk v), sOff v + (j_ - 1) * 7, none⟩))) rfl (by decide) (by decide) rfl (fun w => (Step.indexAddr (i := j_ - 1) (Try.un105).run Try.el115.sized rfl rfl (by omega) hb14 (by omega))) ?_
      refine TW.read (v := (Value.agg #[(Value.string x17.pane.key), (Value.int .i64 x17.pane.start), (Value.int .i64 x17.pane.fin), (Value.int .i64 x17.agg.count), (Value.int .i64 x17.agg.sum), (Value.int .i64 x17.agg.min), (Value.int .i64 x17.agg.max)])) rfl (by decide) (by decide) rfl (fun A w M => (Step.loadEN (k := 0) (cs' := [(Value.string x17.pane.key), (Value.int .i64 x17.pane.start), (Value.int .i64 x17.pane.fin), (Value.int .i64 x17.agg.count), (Value.int .i64 x17.agg.sum), (Value.int .i64 x17.agg.min), (Value.int .i64 x17.agg.max)]) Try.ag115 (flat_ec (own_slAt (M.chunk 1 rfl).inv) hx17 rowE_len) (by decide) rfl rfl rfl)) ?_
      refine TW.callX (ι := Unit) (fun jx v_ => v_ = (Value.int .i64 (cmpRow true x16 x17))) (fun jx => [own 115 7 v zs_.length (zs_.flatMap rowE)]) (fun jx => []) rfl (by decide) rfl (fun jx => (List.Sublist.cons_cons _ List.Sublist.slnil)) (fun jx r h => h) (fun A w M => Rets.mono (cmp_true x16 x17 (M.enterW0 trivial)) (fun v_ w_ ⟨e_, m⟩ => ⟨(), e_, (M.leaveW0 m).sel (L' := [fl A, own 115 7 v zs_.length (zs_.flatMap rowE)]) [0, 1] rfl (by decide), fun b hb => M.keptW0 m (fl A) (List.mem_cons_self ..) b hb⟩)) (fun w => CallsF.value Try.en110 rfl rfl rfl) (fun jx v hp hin => ?_)
      replace hp := hp.symm; subst hp
      clear hin
      change TW _ _ _ _ _ _ _ _ (MemA _ _ _ [own 115 7 v zs_.length (zs_.flatMap rowE)] [])
      refine TW.pure (v := (Value.bool (decide ((cmpRow true x16 x17 : Int) < (0 : Int))))) rfl (by decide) (by decide) rfl (fun w => (Step.pure (by kernel_rfl))) ?_
      refine TW.pure (v := (Value.bool (decide ((cmpRow true x16 x17 : Int) < (0 : Int))))) rfl (by decide) (by decide) rfl (fun w => (Step.pick (t := true) rfl rfl)) ?_
      refine TW.done (fun w18 M => ?_)
      refine W.cond (t := decide ((cmpRow true x16 x17 : Int) < (0 : Int))) rfl (fun h19 => ?_) (fun h19 => ?_)
      ·
        have h19p := of_decide_eq_true h19
        refine W.skip ?_
        refine W.seq' ?_
        refine W.block ?_
        refine W.drawn M [0, 1, 2, 3, 4, 5, 6, 7, 8, 9, 10, 11, 12, 13, 14, 15, 16, 17] [9, 13, 15, 17] [9, 13] [] [] (List.Sublist.cons _ List.Sublist.slnil) (fun _ h => h) Try.mixed (by kernel_rfl) ?_
        refine TW.pure (v := v) rfl (by decide) (by decide) rfl (fun w => (Step.move rfl)) ?_
        refine TW.pure (v := (Value.int .i64 ↑j_)) rfl (by decide) (by decide) rfl (fun w => (Step.move rfl)) ?_
        refine TW.pure (v := v) rfl (by decide) (by decide) rfl (fun w => (Step.move rfl)) ?_
        refine TW.pure (v := (Value.int .i64 ↑j_)) rfl (by decide) (by decide) rfl (fun w => (Step.move rfl)) ?_
        refine TW.pure (v := (Value.int .i64 (↑(j_ - 1)))) rfl (by decide) (by decide) rfl (fun w => (Step.cast (congrArg (Value.int .i64) (show (↑j_ : Int) - 1 = ↑(j_ - 1) by omega)) (Step.sub rfl rfl (wrap_i64 (by omega))))) ?_
        refine TW.pure (v := v) rfl (by decide) (by decide) rfl (fun w => (Step.move rfl)) ?_
        refine TW.pure (v := (Value.int .i64 ↑j_)) rfl (by decide) (by decide) rfl (fun w => (Step.move rfl)) ?_
        refine TW.pure (v := (Value.int .i64 (↑(j_ - 1)))) rfl (by decide) (by decide) rfl (fun w => (Step.cast (congrArg (Value.int .i64) (show (↑j_ : Int) - 1 = ↑(j_ - 1) by omega)) (Step.sub rfl rfl (wrap_i64 (by omega))))) ?_
        refine TW.pure (v := (Value.pointer (some ⟨(sBlk v), sOff v + (j_ - 1) * 7, none⟩))) rfl (by decide) (by decide) rfl (fun w => (Step.indexAddr (i := j_ - 1) (Try.un105).run Try.el115.sized rfl rfl (by omega) hb14 (by omega))) ?_
        refine TW.readP (v := (Value.agg #[(Value.string x17.pane.key), (Value.int .i64 x17.pane.start), (Value.int .i64 x17.pane.fin), (Value.int .i64 x17.agg.count), (Value.int .i64 x17.agg.sum), (Value.int .i64 x17.agg.min), (Value.int .i64 x17.agg.max)])) rfl (by decide) (by decide) rfl (fun A w M => (Step.loadEN (k := 0) (cs' := [(Value.string x17.pane.key), (Value.int .i64 x17.pane.start), (Value.int .i64 x17.pane.fin), (Value.int .i64 x17.agg.count), (Value.int .i64 x17.agg.sum), (Value.int .i64 x17.agg.min), (Value.int .i64 x17.agg.max)]) Try.ag115 (flat_ec (own_slAt (M.chunk 1 rfl).inv) hx17 rowE_len) (by decide) rfl rfl rfl)) ?_
        refine TW.pure (v := v) rfl (by decide) (by decide) rfl (fun w => (Step.move rfl)) ?_
        refine TW.pure (v := (Value.int .i64 ↑j_)) rfl (by decide) (by decide) rfl (fun w => (Step.move rfl)) ?_
        refine TW.pure (v := (Value.pointer (some ⟨(sBlk v), sOff v + j_ * 7, none⟩))) rfl (by decide) (by decide) rfl (fun w => (Step.indexAddr (i := j_) (Try.un105).run Try.el115.sized rfl rfl (by omega) hb14 (by omega))) ?_
        refine TW.readP (v := (Value.agg #[(Value.string x16.pane.key), (Value.int .i64 x16.pane.start), (Value.int .i64 x16.pane.fin), (Value.int .i64 x16.agg.count), (Value.int .i64 x16.agg.sum), (Value.int .i64 x16.agg.min), (Value.int .i64 x16.agg.max)])) rfl (by decide) (by decide) rfl (fun A w M => (Step.loadEN (k := 0) (cs' := [(Value.string x16.pane.key), (Value.int .i64 x16.pane.start), (Value.int .i64 x16.pane.fin), (Value.int .i64 x16.agg.count), (Value.int .i64 x16.agg.sum), (Value.int .i64 x16.agg.min), (Value.int .i64 x16.agg.max)]) Try.ag115 (flat_ec (own_slAt (M.chunk 1 rfl).inv) hx16 rowE_len) (by decide) rfl rfl rfl)) ?_
        refine TW.pure (v := (Value.pointer (some ⟨(sBlk v), sOff v + j_ * 7, none⟩))) rfl (by decide) (by decide) rfl (fun w => (Step.indexAddr (i := j_) (Try.un105).run Try.el115.sized rfl rfl (by omega) hb14 (by omega))) ?_
        refine TW.act (c' := own 115 7 v ((zs_.set j_ x17).length) ((zs_.set j_ x17).flatMap rowE)) 0 rfl rfl (by decide) rfl (List.Sublist.cons _ List.Sublist.slnil) (fun r h => h) (fun A w M => M.storeF rowE_len x17 1 rfl Try.el115.sized rfl rfl rfl (cel_cons rfl (cel_cons rfl (cel_cons rfl (cel_cons rfl (cel_cons rfl (cel_cons rfl (cel_cons rfl cel_nil))))))) (by first | omega | (simp only [List.length_set]; omega))) ?_
        refine TW.pure (v := (Value.pointer (some ⟨(sBlk v), sOff v + (j_ - 1) * 7, none⟩))) rfl (by decide) (by decide) rfl (fun w => (Step.indexAddr (i := j_ - 1) (Try.un105).run Try.el115.sized rfl rfl (by omega) hb14 (by omega))) ?_
        refine TW.act (c' := own 115 7 v (((zs_.set j_ x17).set (j_ - 1) x16).length) (((zs_.set j_ x17).set (j_ - 1) x16).flatMap rowE)) 0 rfl rfl (by decide) rfl (List.Sublist.cons _ List.Sublist.slnil) (fun r h => h) (fun A w M => M.storeF rowE_len x16 1 rfl Try.el115.sized rfl rfl rfl (cel_cons rfl (cel_cons rfl (cel_cons rfl (cel_cons rfl (cel_cons rfl (cel_cons rfl (cel_cons rfl cel_nil))))))) (by first | omega | (simp only [List.length_set]; omega))) ?_
        refine TW.done (fun w20 M => ?_)
        refine W.region rfl ?_
        refine WL.step (v := (Value.int .i64 ↑j_)) rfl (Step.move rfl) ?_
        refine WL.step (v := (Value.int .i64 (↑(j_ - 1)))) rfl (Step.cast (congrArg (Value.int .i64) (show (↑j_ : Int) - 1 = ↑(j_ - 1) by omega)) (Step.sub rfl rfl (wrap_i64 (by omega)))) ?_
        refine WL.step (v := (Value.int .i64 (↑(j_ - 1)))) rfl (Step.assign rfl) ?_
        refine WL.nil ?_
        exact ⟨_, (by omega), j_ - 1, (zs_.set j_ x17).set (j_ - 1) x16, ⟨(by omega), (by simp only [List.length_set]; exact hi11), (by rw [← bub_go (cmpRow true) (by omega) hx16 hx17 h19p]; exact hi12), rfl⟩, ⟨rfl, rfl, rfl, rfl, rfl, rfl, rfl, rfl, rfl, rfl, rfl, rfl⟩, M⟩
      ·
        have h19p := of_decide_eq_false h19
        refine W.exit ?_
        refine thn_exit ?_
        refine thn_exit ?_
        refine inBlk_hit ?_
        refine W.region rfl ?_
        refine WL.step (v := (Value.int .i64 ↑i_)) rfl (Step.move rfl) ?_
        refine WL.step (v := (Value.int .i64 (↑i_ + 1))) rfl (Step.add rfl rfl (wrap_i64 (by omega))) ?_
        refine WL.step (v := (Value.int .i64 (↑i_ + 1))) rfl (Step.assign rfl) ?_
        refine WL.nil ?_
        replace M := M.rechunk 0 (c' := own 115 7 v ((sortN (cmpRow true) ys (i_ + 1)).length) ((sortN (cmpRow true) ys (i_ + 1)).flatMap rowE)) rfl (by rw [← hi12, bub_stop (cmpRow true) (by omega) hx16 hx17 h19p])
        replace M : Mem _ _ _ [own 115 7 v ((sortN (cmpRow true) ys (i_ + 1)).length) ((sortN (cmpRow true) ys (i_ + 1)).flatMap rowE)] [] _ := M
        exact ⟨_, (by omega), i_ + 1, ⟨(by omega), (by omega), rfl⟩, ⟨rfl, rfl, rfl, rfl, rfl, rfl, rfl⟩, M⟩
    ·
      have h13p := of_decide_eq_false h13
      refine W.drawn M [0, 1, 2, 3, 4, 5, 6, 7, 8, 9, 10, 11, 12, 13, 14, 15, 16] [14] [] [own 115 7 v zs_.length (zs_.flatMap rowE)] [] (List.Sublist.cons_cons _ List.Sublist.slnil) (fun _ h => h) Try.mixed (by kernel_rfl) ?_
      refine TW.pure (v := (Value.int .i64 ↑j_)) rfl (by decide) (by decide) rfl (fun w => (Step.move rfl)) ?_
      refine TW.pure (v := (Value.int .i64 a)) rfl (by decide) (by decide) rfl (fun w => (Step.move rfl)) ?_
      refine TW.pure (v := (Value.bool false)) rfl (by decide) (by decide) rfl (fun w => (Step.cast (congrArg Value.bool h13) (Step.pure (by kernel_rfl)))) ?_
      refine TW.pure (v := (Value.bool false)) rfl (by decide) (by decide) rfl (fun w => (Step.move rfl)) ?_
      refine TW.skip rfl rfl ?_
      refine TW.skip rfl rfl ?_
      refine TW.skip rfl rfl ?_
      refine TW.skip rfl rfl ?_
      refine TW.skip rfl rfl ?_
      refine TW.skip rfl rfl ?_
      refine TW.skip rfl rfl ?_
      refine TW.skip rfl rfl ?_
      refine TW.skip rfl rfl ?_
      refine TW.skip rfl rfl ?_
      refine TW.skip rfl rfl ?_
      refine TW.skip rfl rfl ?_
      refine TW.pure (v := (Value.bool false)) rfl (by decide) (by decide) rfl (fun w => (Step.pick (t := false) rfl rfl)) ?_
      refine TW.done (fun w21 M => ?_)
      refine W.cond (t := false) rfl (fun h => by cases h) (fun _ => ?_)
      refine W.exit ?_
      refine thn_exit ?_
      refine thn_exit ?_
      refine inBlk_hit ?_
      refine W.region rfl ?_
      refine WL.step (v := (Value.int .i64 ↑i_)) rfl (Step.move rfl) ?_
      refine WL.step (v := (Value.int .i64 (↑i_ + 1))) rfl (Step.add rfl rfl (wrap_i64 (by omega))) ?_
      refine WL.step (v := (Value.int .i64 (↑i_ + 1))) rfl (Step.assign rfl) ?_
      refine WL.nil ?_
      replace M := M.rechunk 0 (c' := own 115 7 v ((sortN (cmpRow true) ys (i_ + 1)).length) ((sortN (cmpRow true) ys (i_ + 1)).flatMap rowE)) rfl (by rw [← hi12, show j_ = 0 by omega, bub_zero])
      replace M : Mem _ _ _ [own 115 7 v ((sortN (cmpRow true) ys (i_ + 1)).length) ((sortN (cmpRow true) ys (i_ + 1)).flatMap rowE)] [] _ := M
      exact ⟨_, (by omega), i_ + 1, ⟨(by omega), (by omega), rfl⟩, ⟨rfl, rfl, rfl, rfl, rfl, rfl, rfl⟩, M⟩
  ·
    have h7p := of_decide_eq_false h7
    refine W.exit ?_
    refine thn_exit ?_
    refine thn_exit ?_
    refine inBlk_hit ?_
    refine ⟨.inr rfl, undef, ?_, ?_⟩
    · exact ⟨rfl, Res.none⟩
    have e22 : sortV (cmpRow true) ys = sortN (cmpRow true) ys i_ := by
      exact (sortN_over (cmpRow true) (by omega)).symm
    replace M := M.rechunk 0 (c' := own 115 7 v ((sortV (cmpRow true) ys).length) ((sortV (cmpRow true) ys).flatMap rowE)) rfl (congrArg (fun z => own 115 7 v z.length (z.flatMap rowE)) e22.symm)
    replace M : Mem _ _ _ [own 115 7 v ((sortV (cmpRow true) ys).length) ((sortV (cmpRow true) ys).flatMap rowE)] [] _ := M
    refine ⟨?_, M.close [0] rfl (by decide) trivial⟩
    rfl

theorem ins0_true {G X : Nat → Prop} {w : World} (v : Value) (ys : List Row5) (a : Int) (n : Int)  (hn : n ≤ a + 1) (ha2 : 0 ≤ a ∧ a ≤ 1000) (ha : decide ((a : Int) = 0) = false) (M : Mem G X w [own 115 7 v ys.length (ys.flatMap rowE)] [] w) : Rets Try.prog 136 #[v, (Value.int .i64 a), (Value.int .i64 n), (Value.func (.func 110) #[(Value.agg #[(Value.func (.func 67) #[] #[])])] #[])] w fun r w' => r = undef ∧ Mem G X w [own 115 7 v ys.length (ys.flatMap rowE)] [] w' := by
  refine Rets.enter 53 _ Try.func136 rfl Try.ntmps136 Try.results136 (by simp) ?_
  have sl1 : IsSl v := SlAt.isSl (own_slAt (Mem.chunk M 0 rfl).inv)
  have hle2 := SlAt.le' (own_slAt (Mem.chunk M 0 rfl).inv)
  refine W.seq' ?_
  refine W.region rfl ?_
  refine WL.step (v := (Value.int .i64 a)) rfl (Step.move rfl) ?_
  refine WL.step (v := (Value.int .i64 (a + 1))) rfl (Step.add rfl rfl (wrap_i64 (by omega))) ?_
  refine WL.step (v := (Value.int .i64 (a + 1))) rfl (Step.assign rfl) ?_
  refine WL.nil ?_
  refine W.block ?_
  refine W.loop (fun kk ρ w' => (kk = 0) ∧ ρ.has [(0, v), (1, (Value.int .i64 a)), (2, (Value.int .i64 n)), (3, (Value.func (.func 110) #[(Value.agg #[(Value.func (.func 67) #[] #[])])] #[])), (8, (Value.int .i64 (a + 1)))] ∧ Mem G X w [own 115 7 v ys.length (ys.flatMap rowE)] []  w') _ ⟨rfl, ⟨rfl, rfl, rfl, rfl, rfl, rfl, rfl⟩, M⟩ ?_
  rintro _ ρ4 w3 ⟨rfl, hρ, M⟩
  obtain ⟨ρ4, rfl⟩ := hρ.know
  clear hρ
  refine W.seq' ?_
  refine W.seq' ?_
  refine W.region rfl ?_
  refine WL.step (v := (Value.int .i64 (a + 1))) rfl (Step.move rfl) ?_
  refine WL.step (v := (Value.int .i64 n)) rfl (Step.move rfl) ?_
  refine WL.step (v := (Value.bool (decide ((a + 1 : Int) < (n : Int))))) rfl (Step.pure (by kernel_rfl)) ?_
  refine WL.nil ?_
  refine W.cond (t := decide ((a + 1 : Int) < (n : Int))) rfl (fun h5 => ?_) (fun h5 => ?_)
  ·
    have h5p := of_decide_eq_true h5
    omega
  ·
    have h5p := of_decide_eq_false h5
    refine W.exit ?_
    refine thn_exit ?_
    refine thn_exit ?_
    refine inBlk_hit ?_
    refine ⟨.inr rfl, undef, ?_, ?_⟩
    · exact ⟨rfl, Res.none⟩
    refine ⟨?_, M.close [0] rfl (by decide) trivial⟩
    rfl

theorem stab_true {G X : Nat → Prop} {w : World} (v : Value) (ys : List Row5) (n : Int)  (hn : n = ys.length) (hb : ys.length ≤ 20) (M : Mem G X w [own 115 7 v ys.length (ys.flatMap rowE)] [] w) : Rets Try.prog 131 #[v, (Value.int .i64 n), (Value.func (.func 110) #[(Value.agg #[(Value.func (.func 67) #[] #[])])] #[])] w fun r w' => r = undef ∧ Mem G X w [own 115 7 v ((sortV (cmpRow true) ys).length) ((sortV (cmpRow true) ys).flatMap rowE)] [] w' := by
  refine Rets.enter 63 _ Try.func131 rfl Try.ntmps131 Try.results131 (by simp) ?_
  have sl1 : IsSl v := SlAt.isSl (own_slAt (Mem.chunk M 0 rfl).inv)
  have hle2 := SlAt.le' (own_slAt (Mem.chunk M 0 rfl).inv)
  refine W.seq' ?_
  refine W.region rfl ?_
  refine WL.step (v := (Value.int .i64 20)) rfl (Step.assign rfl) ?_
  refine WL.nil ?_
  refine W.seq' ?_
  refine W.region rfl ?_
  refine WL.step (v := (Value.int .i64 20)) rfl (Step.move rfl) ?_
  refine WL.step (v := (Value.int .i64 0)) rfl (Step.assign rfl) ?_
  refine WL.step (v := (Value.int .i64 20)) rfl (Step.assign rfl) ?_
  refine WL.nil ?_
  refine W.seq' ?_
  refine W.block ?_
  replace M := M.sel (L' := [own 115 7 v ys.length (ys.flatMap rowE)]) [0] rfl (by decide)
  replace M : Mem _ _ _ [own 115 7 v ys.length (ys.flatMap rowE)] [] _ := M
  refine W.loop (fun kk ρ w' => ∃ (q_ : Nat) (zs_ : List Row5), (((q_ = 0 ∧ zs_ = ys) ∨ (q_ = 1 ∧ ys.length = 20 ∧ zs_ = sortV (cmpRow true) ys)) ∧ kk = 1 - q_) ∧ ρ.has [(0, v), (1, (Value.int .i64 n)), (2, (Value.func (.func 110) #[(Value.agg #[(Value.func (.func 67) #[] #[])])] #[])), (6, (Value.int .i64 20)), (7, (Value.int .i64 (20 * ↑q_))), (8, (Value.int .i64 (20 * ↑q_ + 20)))] ∧ Mem G X w [own 115 7 v zs_.length (zs_.flatMap rowE)] []  w') _ ⟨0, ys, ⟨(.inl ⟨rfl, rfl⟩), rfl⟩, ⟨rfl, rfl, rfl, rfl, rfl, rfl, rfl, rfl⟩, M⟩ ?_
  rintro _ ρ4 w3 ⟨q_, zs_, ⟨hi5, rfl⟩, hρ, M⟩
  obtain ⟨ρ4, rfl⟩ := hρ.know
  clear hρ
  have hzl_ : zs_.length = ys.length ∧ q_ ≤ 1 := by rcases hi5 with ⟨e1, e2⟩ | ⟨e1, _, e2⟩ <;> simp [e1, e2, sortV_len]
  obtain ⟨hzl_, hq1_⟩ := hzl_
  refine W.seq' ?_
  refine W.seq' ?_
  refine W.region rfl ?_
  refine WL.step (v := (Value.int .i64 (20 * ↑q_ + 20))) rfl (Step.move rfl) ?_
  refine WL.step (v := (Value.int .i64 n)) rfl (Step.move rfl) ?_
  refine WL.step (v := (Value.bool (decide ((20 * ↑q_ + 20 : Int) ≤ (n : Int))))) rfl (Step.pure (by kernel_rfl)) ?_
  refine WL.nil ?_
  refine W.cond (t := decide ((20 * ↑q_ + 20 : Int) ≤ (n : Int))) rfl (fun h6 => ?_) (fun h6 => ?_)
  ·
    have h6p := of_decide_eq_true h6
    refine W.skip ?_
    refine W.block ?_
    refine W.seq' ?_
    refine W.region rfl ?_
    refine WL.step (v := v) rfl (Step.move rfl) ?_
    refine WL.step (v := (Value.int .i64 0)) rfl (Step.cast (congrArg (Value.int .i64) (show (20 * ↑q_ : Int) = 0 by omega)) (Step.move rfl)) ?_
    refine WL.step (v := (Value.int .i64 20)) rfl (Step.cast (congrArg (Value.int .i64) (show (20 * ↑q_ + 20 : Int) = 20 by omega)) (Step.move rfl)) ?_
    refine WL.step (v := (Value.func (.func 110) #[(Value.agg #[(Value.func (.func 67) #[] #[])])] #[])) rfl (Step.move rfl) ?_
    refine WL.callX rfl (ins_true v zs_ 0 20 (by omega) (by first | omega | assumption | decide | (simp only [List.length_nil, List.length_cons, List.length_take, List.length_drop]; omega)) (show decide ((0 : Int) = 0) = true by rfl) (M.enterW (C := [own 115 7 v zs_.length (zs_.flatMap rowE)]) (D := []) [0] rfl (by decide) trivial)) (CallsF.func Try.en136 rfl) ?_
    rintro _ w7 ⟨rfl, m⟩
    replace M := M.leaveW (C := [own 115 7 v zs_.length (zs_.flatMap rowE)]) (D := []) [0] rfl (by decide) m
    clear m
    replace M : Mem _ _ _ [own 115 7 v ((sortV (cmpRow true) zs_).length) ((sortV (cmpRow true) zs_).flatMap rowE)] [] _ := M
    have hle8 := SlAt.le' (own_slAt (Mem.chunk M 0 rfl).inv)
    refine WL.nil ?_
    refine W.seq' ?_
    refine W.region rfl ?_
    refine WL.step (v := (Value.int .i64 20)) rfl (Step.cast (congrArg (Value.int .i64) (show (20 * ↑q_ + 20 : Int) = 20 by omega)) (Step.move rfl)) ?_
    refine WL.step (v := (Value.int .i64 20)) rfl (Step.assign rfl) ?_
    refine WL.nil ?_
    refine W.region rfl ?_
    refine WL.step (v := (Value.int .i64 20)) rfl (Step.cast (congrArg (Value.int .i64) (show (20 * ↑q_ + 20 : Int) = 20 by omega)) (Step.move rfl)) ?_
    refine WL.step (v := (Value.int .i64 20)) rfl (Step.move rfl) ?_
    refine WL.step (v := (Value.int .i64 40)) rfl (Step.pure (by kernel_rfl)) ?_
    refine WL.step (v := (Value.int .i64 40)) rfl (Step.assign rfl) ?_
    refine WL.nil ?_
    exact ⟨_, (by omega), 1, sortV (cmpRow true) zs_, ⟨(hi5.elim (fun ⟨e1, e2⟩ => .inr ⟨rfl, by omega, by rw [e2]⟩) (fun ⟨e1, _, e2⟩ => absurd e1 (by omega))), rfl⟩, ⟨rfl, rfl, rfl, rfl, rfl, rfl, rfl, rfl⟩, M⟩
  ·
    have h6p := of_decide_eq_false h6
    refine W.exit ?_
    refine thn_exit ?_
    refine thn_exit ?_
    refine inBlk_hit ?_
    refine W.seq' ?_
    refine W.region rfl ?_
    refine WL.step (v := v) rfl (Step.move rfl) ?_
    refine WL.step (v := (Value.int .i64 (20 * ↑q_))) rfl (Step.move rfl) ?_
    refine WL.step (v := (Value.int .i64 n)) rfl (Step.move rfl) ?_
    refine WL.step (v := (Value.func (.func 110) #[(Value.agg #[(Value.func (.func 67) #[] #[])])] #[])) rfl (Step.move rfl) ?_
    rcases Bool.eq_false_or_eq_true (decide (((20 * ↑q_) : Int) = 0)) with h9 | h9
    ·
      have h9p := of_decide_eq_true h9
      refine WL.callX rfl (ins_true v zs_ (20 * ↑q_) n (by omega) (by first | omega | assumption | decide | (simp only [List.length_nil, List.length_cons, List.length_take, List.length_drop]; omega)) h9 (M.enterW (C := [own 115 7 v zs_.length (zs_.flatMap rowE)]) (D := []) [0] rfl (by decide) trivial)) (CallsF.func Try.en136 rfl) ?_
      rintro _ w10 ⟨rfl, m⟩
      replace M := M.leaveW (C := [own 115 7 v zs_.length (zs_.flatMap rowE)]) (D := []) [0] rfl (by decide) m
      clear m
      replace M : Mem _ _ _ [own 115 7 v ((sortV (cmpRow true) zs_).length) ((sortV (cmpRow true) zs_).flatMap rowE)] [] _ := M
      have hle11 := SlAt.le' (own_slAt (Mem.chunk M 0 rfl).inv)
      refine WL.nil ?_
      refine W.block ?_
      refine W.loop (fun kk ρ w' => (kk = 0) ∧ ρ.has [(0, v), (1, (Value.int .i64 n)), (2, (Value.func (.func 110) #[(Value.agg #[(Value.func (.func 67) #[] #[])])] #[])), (6, (Value.int .i64 20))] ∧ Mem G X w [own 115 7 v ((sortV (cmpRow true) zs_).length) ((sortV (cmpRow true) zs_).flatMap rowE)] []  w') _ ⟨rfl, ⟨rfl, rfl, rfl, rfl, rfl, rfl⟩, M⟩ ?_
      rintro _ ρ13 w12 ⟨rfl, hρ, M⟩
      obtain ⟨ρ13, rfl⟩ := hρ.know
      clear hρ
      refine W.seq' ?_
      refine W.seq' ?_
      refine W.region rfl ?_
      refine WL.step (v := (Value.int .i64 20)) rfl (Step.move rfl) ?_
      refine WL.step (v := (Value.int .i64 n)) rfl (Step.move rfl) ?_
      refine WL.step (v := (Value.bool (decide ((20 : Int) < (n : Int))))) rfl (Step.pure (by kernel_rfl)) ?_
      refine WL.nil ?_
      refine W.cond (t := decide ((20 : Int) < (n : Int))) rfl (fun h14 => ?_) (fun h14 => ?_)
      ·
        have h14p := of_decide_eq_true h14
        omega
      ·
        have h14p := of_decide_eq_false h14
        refine W.exit ?_
        refine thn_exit ?_
        refine thn_exit ?_
        refine inBlk_hit ?_
        refine ⟨.inr rfl, undef, ?_, ?_⟩
        · exact ⟨rfl, Res.none⟩
        have e15 : sortV (cmpRow true) ys = sortV (cmpRow true) zs_ := by
          rcases hi5 with ⟨e1, e2⟩ | ⟨e1, _, e2⟩ <;> first | (rw [e2]; done) | (exfalso; omega)
        replace M := M.rechunk 0 (c' := own 115 7 v ((sortV (cmpRow true) ys).length) ((sortV (cmpRow true) ys).flatMap rowE)) rfl (congrArg (fun z => own 115 7 v z.length (z.flatMap rowE)) e15.symm)
        replace M : Mem _ _ _ [own 115 7 v ((sortV (cmpRow true) ys).length) ((sortV (cmpRow true) ys).flatMap rowE)] [] _ := M
        refine ⟨?_, M.close [0] rfl (by decide) trivial⟩
        rfl
    ·
      have h9p := of_decide_eq_false h9
      refine WL.callX rfl (ins0_true v zs_ (20 * ↑q_) n (by omega) (by omega) h9 (M.enterW (C := [own 115 7 v zs_.length (zs_.flatMap rowE)]) (D := []) [0] rfl (by decide) trivial)) (CallsF.func Try.en136 rfl) ?_
      rintro _ w16 ⟨rfl, m⟩
      replace M := M.leaveW (C := [own 115 7 v zs_.length (zs_.flatMap rowE)]) (D := []) [0] rfl (by decide) m
      replace M := M.sel (L' := [own 115 7 v zs_.length (zs_.flatMap rowE)]) [0] rfl (by decide)
      clear m
      replace M : Mem _ _ _ [own 115 7 v zs_.length (zs_.flatMap rowE)] [] _ := M
      refine WL.nil ?_
      refine W.block ?_
      refine W.loop (fun kk ρ w' => (kk = 0) ∧ ρ.has [(0, v), (1, (Value.int .i64 n)), (2, (Value.func (.func 110) #[(Value.agg #[(Value.func (.func 67) #[] #[])])] #[])), (6, (Value.int .i64 20))] ∧ Mem G X w [own 115 7 v zs_.length (zs_.flatMap rowE)] []  w') _ ⟨rfl, ⟨rfl, rfl, rfl, rfl, rfl, rfl⟩, M⟩ ?_
      rintro _ ρ18 w17 ⟨rfl, hρ, M⟩
      obtain ⟨ρ18, rfl⟩ := hρ.know
      clear hρ
      refine W.seq' ?_
      refine W.seq' ?_
      refine W.region rfl ?_
      refine WL.step (v := (Value.int .i64 20)) rfl (Step.move rfl) ?_
      refine WL.step (v := (Value.int .i64 n)) rfl (Step.move rfl) ?_
      refine WL.step (v := (Value.bool (decide ((20 : Int) < (n : Int))))) rfl (Step.pure (by kernel_rfl)) ?_
      refine WL.nil ?_
      refine W.cond (t := decide ((20 : Int) < (n : Int))) rfl (fun h19 => ?_) (fun h19 => ?_)
      ·
        have h19p := of_decide_eq_true h19
        omega
      ·
        have h19p := of_decide_eq_false h19
        refine W.exit ?_
        refine thn_exit ?_
        refine thn_exit ?_
        refine inBlk_hit ?_
        refine ⟨.inr rfl, undef, ?_, ?_⟩
        · exact ⟨rfl, Res.none⟩
        have e20 : sortV (cmpRow true) ys = zs_ := by
          rcases hi5 with ⟨e1, e2⟩ | ⟨e1, _, e2⟩ <;> first | (rw [e2]; done) | (exfalso; omega)
        replace M := M.rechunk 0 (c' := own 115 7 v ((sortV (cmpRow true) ys).length) ((sortV (cmpRow true) ys).flatMap rowE)) rfl (congrArg (fun z => own 115 7 v z.length (z.flatMap rowE)) e20.symm)
        replace M : Mem _ _ _ [own 115 7 v ((sortV (cmpRow true) ys).length) ((sortV (cmpRow true) ys).flatMap rowE)] [] _ := M
        refine ⟨?_, M.close [0] rfl (by decide) trivial⟩
        rfl

theorem sstab_true {G X : Nat → Prop} {w : World} (v : Value) (ys : List Row5)  (hb : ys.length ≤ 20) (M : Mem G X w [own 115 7 v ys.length (ys.flatMap rowE)] [] w) : Rets Try.prog 109 #[v, (Value.func (.func 110) #[(Value.agg #[(Value.func (.func 67) #[] #[])])] #[])] w fun r w' => r = undef ∧ Mem G X w [own 115 7 v ((sortV (cmpRow true) ys).length) ((sortV (cmpRow true) ys).flatMap rowE)] [] w' := by
  refine Rets.enter 9 _ Try.func109 rfl Try.ntmps109 Try.results109 (by simp) ?_
  have sl1 : IsSl v := SlAt.isSl (own_slAt (Mem.chunk M 0 rfl).inv)
  have hle2 := SlAt.le' (own_slAt (Mem.chunk M 0 rfl).inv)
  refine W.region rfl ?_
  refine WL.step (v := v) rfl (Step.move rfl) ?_
  refine WL.step (v := v) rfl (Step.move rfl) ?_
  refine WL.step (v := (Value.int .i64 ↑ys.length)) rfl (Step.lenSl Try.un105 rfl (own_slAt (M.chunk 0 rfl).inv)) ?_
  refine WL.step (v := (Value.func (.func 110) #[(Value.agg #[(Value.func (.func 67) #[] #[])])] #[])) rfl (Step.move rfl) ?_
  refine WL.callX rfl (stab_true v ys ↑ys.length (by omega) (by first | omega | assumption) (M.enterW (C := [own 115 7 v ys.length (ys.flatMap rowE)]) (D := []) [0] rfl (by decide) trivial)) (CallsF.func Try.en131 rfl) ?_
  rintro _ w3 ⟨rfl, m⟩
  replace M := M.leaveW (C := [own 115 7 v ys.length (ys.flatMap rowE)]) (D := []) [0] rfl (by decide) m
  clear m
  replace M : Mem _ _ _ [own 115 7 v ((sortV (cmpRow true) ys).length) ((sortV (cmpRow true) ys).flatMap rowE)] [] _ := M
  have hle4 := SlAt.le' (own_slAt (Mem.chunk M 0 rfl).inv)
  refine WL.nil ?_
  refine ⟨.inr rfl, undef, ?_, ?_⟩
  · exact ⟨rfl, Res.none⟩
  refine ⟨?_, M.close [0] rfl (by decide) trivial⟩
  rfl
end Go.Proofs
