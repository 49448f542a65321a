/- Walks. -/
import Derived.Test.YthihknbbibgchaaTrT4
set_option maxRecDepth 100000
set_option linter.all false
namespace Go.Proofs
open Go Tp
theorem Try.ag62 : Aggr Try.prog 62 2 := ⟨fun _ => by kernel_rfl, fun _ => by kernel_rfl⟩
theorem Try.en39 : Enters Try.prog 39 := fun _ _ => by kernel_rfl

theorem ref17_merge {G : Nat → Prop} {w : World} (v : Value) (l : List Span)  (hb : l.length ≤ 1000000) (M : Mem G (fun _ => False) w [] [SlAt 2 v l.length (l.flatMap spanE)] w) : Rets Try.prog 78 #[v] w fun r w' => ∃ (v' : Value), r = (Value.tuple #[v', (Value.bool ((mergeS l).2))]) ∧ Mem G (fun _ => False) w [] [SlAt 2 v' ((mergeS l).1).length (((mergeS l).1).flatMap spanE)] w' := by
  refine Rets.enter 79 _ Try.func78 rfl Try.ntmps78 Try.results78 (by simp) ?_
  have hle1 := SlAt.le' (M.rep 0 rfl)
  have sl2 : IsSl v := SlAt.isSl (Mem.rep M 0 rfl)
  refine W.seq' ?_
  refine W.region rfl ?_
  refine WL.step (v := (Value.slice none 0 0)) rfl (Step.assign rfl) ?_
  refine WL.step (v := (Value.bool false)) rfl (Step.assign rfl) ?_
  refine WL.nil ?_
  refine W.seq' ?_
  refine W.seq' ?_
  refine W.region rfl ?_
  refine WL.step (v := (Value.int .i64 0)) rfl (Step.assign rfl) ?_
  refine WL.nil ?_
  refine W.block ?_
  refine W.loop (fun kk ρ w' => ∃ (i_ : Nat), ((i_ ≤ l.length) ∧ (apart l i_) ∧ kk = l.length - i_) ∧ ρ.has [(0, v), (4, (Value.int .i64 ↑i_))] ∧ Mem G (fun _ => False) w [] [SlAt 2 v l.length (l.flatMap spanE)]  w') _ ⟨0, ⟨(Nat.zero_le _), (apart_zero l), rfl⟩, ⟨rfl, rfl, rfl, rfl⟩, M⟩ ?_
  rintro _ ρ4 w3 ⟨i_, ⟨hi5, hi6, rfl⟩, hρ, M⟩
  obtain ⟨ρ4, rfl⟩ := hρ.know
  clear hρ
  refine W.seq' ?_
  refine W.seq' ?_
  refine W.region rfl ?_
  refine WL.step (v := (Value.int .i64 ↑i_)) rfl (Step.move rfl) ?_
  refine WL.step (v := v) rfl (Step.move rfl) ?_
  refine WL.step (v := (Value.int .i64 ↑l.length)) rfl (Step.lenSl Try.un59 rfl (M.rep 0 rfl)) ?_
  refine WL.step (v := (Value.bool (decide ((↑i_ : Int) < (↑l.length : Int))))) rfl (Step.pure (by kernel_rfl)) ?_
  refine WL.nil ?_
  refine W.cond (t := decide ((↑i_ : Int) < (↑l.length : Int))) rfl (fun h7 => ?_) (fun h7 => ?_)
  ·
    have h7p := of_decide_eq_true h7
    refine W.skip ?_
    refine W.seq' ?_
    refine W.block ?_
    refine W.seq' ?_
    refine W.region rfl ?_
    refine WL.step (v := (Value.int .i64 ↑i_)) rfl (Step.move rfl) ?_
    refine WL.step (v := (Value.int .i64 (↑i_ + 1))) rfl (Step.add rfl rfl (wrap_i64 (by omega))) ?_
    refine WL.step (v := (Value.int .i64 (↑i_ + 1))) rfl (Step.assign rfl) ?_
    refine WL.nil ?_
    refine W.block ?_
    refine W.loop (fun kk ρ w' => ∃ (k_ : Nat), ((i_ < k_) ∧ (k_ ≤ l.length) ∧ (apart1 l i_ k_) ∧ kk = l.length - k_) ∧ ρ.has [(0, v), (4, (Value.int .i64 ↑i_)), (5, (Value.int .i64 ↑k_)), (8, (Value.int .i64 ↑i_)), (9, v), (10, (Value.int .i64 ↑l.length)), (11, (Value.bool (decide ((↑i_ : Int) < (↑l.length : Int))))), (14, (Value.int .i64 ↑i_)), (15, (Value.int .i64 (↑i_ + 1)))] ∧ Mem G (fun _ => False) w [] [SlAt 2 v l.length (l.flatMap spanE)]  w') _ ⟨i_ + 1, ⟨(by omega), (by omega), (apart1_start l i_), rfl⟩, ⟨rfl, rfl, rfl, rfl, rfl, rfl, rfl, rfl, rfl, rfl, rfl⟩, M⟩ ?_
    rintro _ ρ9 w8 ⟨k_, ⟨hi10, hi11, hi12, rfl⟩, hρ, M⟩
    obtain ⟨ρ9, rfl⟩ := hρ.know
    clear hρ
    refine W.seq' ?_
    refine W.seq' ?_
    refine W.region rfl ?_
    refine WL.step (v := (Value.int .i64 ↑k_)) rfl (Step.move rfl) ?_
    refine WL.step (v := v) rfl (Step.move rfl) ?_
    refine WL.step (v := (Value.int .i64 ↑l.length)) rfl (Step.lenSl Try.un59 rfl (M.rep 0 rfl)) ?_
    refine WL.step (v := (Value.bool (decide ((↑k_ : Int) < (↑l.length : Int))))) rfl (Step.pure (by kernel_rfl)) ?_
    refine WL.nil ?_
    refine W.cond (t := decide ((↑k_ : Int) < (↑l.length : Int))) rfl (fun h13 => ?_) (fun h13 => ?_)
    ·
      have h13p := of_decide_eq_true h13
      refine W.skip ?_
      refine W.seq' ?_
      refine W.block ?_
      refine W.seq' ?_
      refine W.seq' ?_
      obtain ⟨cap15, hb14⟩ := SlAt.base (M.rep 0 rfl) (by omega)
      obtain ⟨x16, hx16⟩ := elem_of_lt (xs := l) (i := i_) (by omega)
      obtain ⟨x17, hx17⟩ := elem_of_lt (xs := l) (i := k_) (by omega)
      refine W.drawn M [0, 1, 2, 3, 4, 5, 6, 7, 8, 9] [8] [] [] [SlAt 2 v l.length (l.flatMap spanE)] List.Sublist.slnil (fun _ h => h) Try.mixed (by kernel_rfl) ?_
      refine TW.pure (v := v) rfl (by decide) (by decide) rfl (fun w => (Step.move rfl)) ?_
      refine TW.pure (v := (Value.int .i64 ↑i_)) rfl (by decide) (by decide) rfl (fun w => (Step.move rfl)) ?_
      refine TW.pure (v := (Value.pointer (some ⟨(sBlk v), sOff v + i_ * 2, none⟩))) rfl (by decide) (by decide) rfl (fun w => (Step.indexAddr (i := i_) (Try.un59).run Try.el62.sized rfl rfl (by omega) hb14 (by omega))) ?_
      refine TW.read (v := (Value.agg #[(Value.int .i64 x16.start), (Value.int .i64 x16.fin)])) rfl (by decide) (by decide) rfl (fun A w M => (Step.loadEN (k := 0) (cs' := [(Value.int .i64 x16.start), (Value.int .i64 x16.fin)]) Try.ag62 (flat_ec (M.rep 0 rfl) hx16 spanE_len) (by decide) rfl rfl rfl)) ?_
      refine TW.pure (v := v) rfl (by decide) (by decide) rfl (fun w => (Step.move rfl)) ?_
      refine TW.pure (v := (Value.int .i64 ↑k_)) rfl (by decide) (by decide) rfl (fun w => (Step.move rfl)) ?_
      refine TW.pure (v := (Value.pointer (some ⟨(sBlk v), sOff v + k_ * 2, none⟩))) rfl (by decide) (by decide) rfl (fun w => (Step.indexAddr (i := k_) (Try.un59).run Try.el62.sized rfl rfl (by omega) hb14 (by omega))) ?_
      refine TW.read (v := (Value.agg #[(Value.int .i64 x17.start), (Value.int .i64 x17.fin)])) rfl (by decide) (by decide) rfl (fun A w M => (Step.loadEN (k := 0) (cs' := [(Value.int .i64 x17.start), (Value.int .i64 x17.fin)]) Try.ag62 (flat_ec (M.rep 0 rfl) hx17 spanE_len) (by decide) rfl rfl rfl)) ?_
      refine TW.callX (ι := Unit) (fun jx v_ => v_ = (Value.bool (overS2 x16 x17))) (fun jx => []) (fun jx => [SlAt 2 v l.length (l.flatMap spanE)]) rfl (by decide) rfl (fun jx => List.Sublist.slnil) (fun jx r h => h) (fun A w M => Rets.mono (ref17_over x16 x17 (M.enterW0 trivial)) (fun v_ w_ ⟨e_, m⟩ => ⟨(), e_, (M.leaveW0 m).sel (L' := [fl A]) [0] rfl (by decide), fun b hb => M.keptW0 m (fl A) (List.mem_cons_self ..) b hb⟩)) (fun w => CallsF.func Try.en39 rfl) (fun jx v hp hin => ?_)
      replace hp := hp.symm; subst hp
      clear hin
      change TW _ _ _ _ _ _ _ _ (MemA _ _ _ [] [SlAt 2 v l.length (l.flatMap spanE)])
      refine TW.pure (v := (Value.bool (!(overS2 x16 x17)))) rfl (by decide) (by decide) rfl (fun w => (Step.pure (by kernel_rfl))) ?_
      refine TW.done (fun w18 M => ?_)
      refine W.cond (t := !(overS2 x16 x17)) rfl (fun h19 => ?_) (fun h19 => ?_)
      ·
        refine W.exit ?_
        refine thn_exit ?_
        refine inBlk_hit ?_
        refine W.region rfl ?_
        refine WL.step (v := (Value.int .i64 ↑k_)) rfl (Step.move rfl) ?_
        refine WL.step (v := (Value.int .i64 (↑k_ + 1))) rfl (Step.add rfl rfl (wrap_i64 (by omega))) ?_
        refine WL.step (v := (Value.int .i64 (↑k_ + 1))) rfl (Step.assign rfl) ?_
        refine WL.nil ?_
        exact ⟨_, (by omega), k_ + 1, ⟨(by omega), (by omega), (apart1_step hi12 hx16 hx17 (by simpa using h19)), rfl⟩, ⟨rfl, rfl, rfl, rfl, rfl, rfl, rfl, rfl, rfl, rfl, rfl⟩, M⟩
      ·
        refine W.skip ?_
        refine W.seq' ?_
        refine W.drawn M [0, 1, 2, 3, 4, 5, 6, 7, 8, 9, 10, 11, 12, 13, 14, 15, 16, 17, 18, 19, 20, 21, 22, 23, 24] [] [23] [] [SlAt 2 v l.length (l.flatMap spanE)] List.Sublist.slnil (fun _ h => h) Try.mixed (by kernel_rfl) ?_
        refine TW.pure (v := v) rfl (by decide) (by decide) rfl (fun w => (Step.move rfl)) ?_
        refine TW.pure (v := (Value.int .i64 ↑i_)) rfl (by decide) (by decide) rfl (fun w => (Step.move rfl)) ?_
        refine TW.pure (v := (Value.pointer (some ⟨(sBlk v), sOff v + i_ * 2, none⟩))) rfl (by decide) (by decide) rfl (fun w => (Step.indexAddr (i := i_) (Try.un59).run Try.el62.sized rfl rfl (by omega) hb14 (by omega))) ?_
        refine TW.pure (v := (Value.pointer (some ⟨(sBlk v), sOff v + i_ * 2, none⟩))) rfl (by decide) (by decide) rfl (fun w => (Step.pure (by kernel_rfl))) ?_
        refine TW.read (v := (Value.int .i64 x16.start)) rfl (by decide) (by decide) rfl (fun A w M => (Step.loadE (k := 0) Try.sc2 (flat_ec (M.rep 0 rfl) hx16 spanE_len) (by decide) rfl rfl)) ?_
        refine TW.pure (v := v) rfl (by decide) (by decide) rfl (fun w => (Step.move rfl)) ?_
        refine TW.pure (v := (Value.int .i64 ↑k_)) rfl (by decide) (by decide) rfl (fun w => (Step.move rfl)) ?_
        refine TW.pure (v := (Value.pointer (some ⟨(sBlk v), sOff v + k_ * 2, none⟩))) rfl (by decide) (by decide) rfl (fun w => (Step.indexAddr (i := k_) (Try.un59).run Try.el62.sized rfl rfl (by omega) hb14 (by omega))) ?_
        refine TW.pure (v := (Value.pointer (some ⟨(sBlk v), sOff v + k_ * 2, none⟩))) rfl (by decide) (by decide) rfl (fun w => (Step.pure (by kernel_rfl))) ?_
        refine TW.read (v := (Value.int .i64 x17.start)) rfl (by decide) (by decide) rfl (fun A w M => (Step.loadE (k := 0) Try.sc2 (flat_ec (M.rep 0 rfl) hx17 spanE_len) (by decide) rfl rfl)) ?_
        refine TW.pure (v := (Value.int .i64 (min (x16.start : Int) (x17.start : Int)))) rfl (by decide) (by decide) rfl (fun w => (Step.minI rfl rfl)) ?_
        refine TW.pure (v := v) rfl (by decide) (by decide) rfl (fun w => (Step.move rfl)) ?_
        refine TW.pure (v := (Value.int .i64 ↑i_)) rfl (by decide) (by decide) rfl (fun w => (Step.move rfl)) ?_
        refine TW.pure (v := (Value.pointer (some ⟨(sBlk v), sOff v + i_ * 2, none⟩))) rfl (by decide) (by decide) rfl (fun w => (Step.indexAddr (i := i_) (Try.un59).run Try.el62.sized rfl rfl (by omega) hb14 (by omega))) ?_
        refine TW.pure (v := (Value.pointer (some ⟨(sBlk v), sOff v + i_ * 2 + 1, none⟩))) rfl (by decide) (by decide) rfl (fun w => (Step.pure (by kernel_rfl))) ?_
        refine TW.read (v := (Value.int .i64 x16.fin)) rfl (by decide) (by decide) rfl (fun A w M => (Step.loadE (k := 1) Try.sc2 (flat_ec (M.rep 0 rfl) hx16 spanE_len) (by decide) rfl rfl)) ?_
        refine TW.pure (v := v) rfl (by decide) (by decide) rfl (fun w => (Step.move rfl)) ?_
        refine TW.pure (v := (Value.int .i64 ↑k_)) rfl (by decide) (by decide) rfl (fun w => (Step.move rfl)) ?_
        refine TW.pure (v := (Value.pointer (some ⟨(sBlk v), sOff v + k_ * 2, none⟩))) rfl (by decide) (by decide) rfl (fun w => (Step.indexAddr (i := k_) (Try.un59).run Try.el62.sized rfl rfl (by omega) hb14 (by omega))) ?_
        refine TW.pure (v := (Value.pointer (some ⟨(sBlk v), sOff v + k_ * 2 + 1, none⟩))) rfl (by decide) (by decide) rfl (fun w => (Step.pure (by kernel_rfl))) ?_
        refine TW.read (v := (Value.int .i64 x17.fin)) rfl (by decide) (by decide) rfl (fun A w M => (Step.loadE (k := 1) Try.sc2 (flat_ec (M.rep 0 rfl) hx17 spanE_len) (by decide) rfl rfl)) ?_
        refine TW.pure (v := (Value.int .i64 (max (x16.fin : Int) (x17.fin : Int)))) rfl (by decide) (by decide) rfl (fun w => (Step.maxI rfl rfl)) ?_
        refine TW.pure (v := (Value.agg #[(Value.int .i64 (min (x16.start : Int) (x17.start : Int))), (Value.int .i64 (max (x16.fin : Int) (x17.fin : Int)))])) rfl (by decide) (by decide) rfl (fun w => (Step.pure (by kernel_rfl))) ?_
        refine TW.new (obj := .cells #[(Value.int .i64 (min (x16.start : Int) (x17.start : Int))), (Value.int .i64 (max (x16.fin : Int) (x17.fin : Int)))] 62) (fun b => .slice (some ⟨b, 0, none⟩) 1 1) rfl (by decide) (by decide) rfl (fun w => Step.make (by kernel_rfl)) (fun b24 => ?_)
        refine TW.pure (v := (Value.slice (some ⟨b24, 0, none⟩) 1 1)) rfl (by decide) (by decide) rfl (fun w => (Step.assign rfl)) ?_
        refine TW.done (fun w25 M => ?_)
        refine W.seq' ?_
        refine W.seq' ?_
        refine W.region rfl ?_
        refine WL.step (v := (Value.int .i64 0)) rfl (Step.assign rfl) ?_
        refine WL.nil ?_
        refine W.block ?_
        replace M := M.ownBlk 0 (n := 1) (size := 2) rfl rfl (by decide)
        replace M : Mem _ _ _ [own 62 2 (Value.slice (some ⟨b24, 0, none⟩) 1 1) (([(⟨min (x16.start : Int) (x17.start : Int), max (x16.fin : Int) (x17.fin : Int)⟩ : Span)] : List Span).length) (([(⟨min (x16.start : Int) (x17.start : Int), max (x16.fin : Int) (x17.fin : Int)⟩ : Span)] : List Span).flatMap spanE)] [SlAt 2 v l.length (l.flatMap spanE)] _ := M
        replace M := M.rechunk 0 (c' := own 62 2 (Value.slice (some ⟨b24, 0, none⟩) 1 1) (([hullS x16 x17] ++ restS l i_ k_ 0).length) (([hullS x16 x17] ++ restS l i_ k_ 0).flatMap spanE)) rfl rfl
        replace M : Mem _ _ _ [own 62 2 (Value.slice (some ⟨b24, 0, none⟩) 1 1) (([hullS x16 x17] ++ restS l i_ k_ 0).length) (([hullS x16 x17] ++ restS l i_ k_ 0).flatMap spanE)] [SlAt 2 v l.length (l.flatMap spanE)] _ := M
        replace M := M.sel (L' := [own 62 2 (Value.slice (some ⟨b24, 0, none⟩) 1 1) (([hullS x16 x17] ++ restS l i_ k_ 0).length) (([hullS x16 x17] ++ restS l i_ k_ 0).flatMap spanE)]) [0] rfl (by decide)
        replace M : Mem _ _ _ [own 62 2 (Value.slice (some ⟨b24, 0, none⟩) 1 1) (([hullS x16 x17] ++ restS l i_ k_ 0).length) (([hullS x16 x17] ++ restS l i_ k_ 0).flatMap spanE)] [SlAt 2 v l.length (l.flatMap spanE)] _ := M
        refine W.loop (fun kk ρ w' => ∃ (n_ : Nat) (ov_ : Value), ((n_ ≤ l.length) ∧ kk = l.length - n_) ∧ ρ.has [(0, v), (4, (Value.int .i64 ↑i_)), (5, (Value.int .i64 ↑k_)), (6, ov_), (7, (Value.int .i64 ↑n_)), (8, (Value.int .i64 ↑i_)), (9, v), (10, (Value.int .i64 ↑l.length)), (11, (Value.bool (decide ((↑i_ : Int) < (↑l.length : Int))))), (14, (Value.int .i64 ↑i_)), (15, (Value.int .i64 (↑i_ + 1))), (16, (Value.int .i64 ↑k_)), (17, v), (18, (Value.int .i64 ↑l.length)), (19, (Value.bool (decide ((↑k_ : Int) < (↑l.length : Int))))), (22, v), (23, (Value.int .i64 ↑i_)), (24, (Value.pointer (some ⟨(sBlk v), sOff v + i_ * 2, none⟩))), (25, (Value.agg #[(Value.int .i64 x16.start), (Value.int .i64 x16.fin)])), (26, v), (27, (Value.int .i64 ↑k_)), (28, (Value.pointer (some ⟨(sBlk v), sOff v + k_ * 2, none⟩))), (29, (Value.agg #[(Value.int .i64 x17.start), (Value.int .i64 x17.fin)])), (30, (Value.bool (overS2 x16 x17))), (31, (Value.bool (!(overS2 x16 x17)))), (32, v), (33, (Value.int .i64 ↑i_)), (34, (Value.pointer (some ⟨(sBlk v), sOff v + i_ * 2, none⟩))), (35, (Value.pointer (some ⟨(sBlk v), sOff v + i_ * 2, none⟩))), (36, (Value.int .i64 x16.start)), (37, v), (38, (Value.int .i64 ↑k_)), (39, (Value.pointer (some ⟨(sBlk v), sOff v + k_ * 2, none⟩))), (40, (Value.pointer (some ⟨(sBlk v), sOff v + k_ * 2, none⟩))), (41, (Value.int .i64 x17.start)), (42, (Value.int .i64 (min (x16.start : Int) (x17.start : Int)))), (43, v), (44, (Value.int .i64 ↑i_)), (45, (Value.pointer (some ⟨(sBlk v), sOff v + i_ * 2, none⟩))), (46, (Value.pointer (some ⟨(sBlk v), sOff v + i_ * 2 + 1, none⟩))), (47, (Value.int .i64 x16.fin)), (48, v), (49, (Value.int .i64 ↑k_)), (50, (Value.pointer (some ⟨(sBlk v), sOff v + k_ * 2, none⟩))), (51, (Value.pointer (some ⟨(sBlk v), sOff v + k_ * 2 + 1, none⟩))), (52, (Value.int .i64 x17.fin)), (53, (Value.int .i64 (max (x16.fin : Int) (x17.fin : Int)))), (54, (Value.agg #[(Value.int .i64 (min (x16.start : Int) (x17.start : Int))), (Value.int .i64 (max (x16.fin : Int) (x17.fin : Int)))])), (55, (Value.slice (some ⟨b24, 0, none⟩) 1 1))] ∧ Mem G (fun _ => False) w [own 62 2 ov_ (([hullS x16 x17] ++ restS l i_ k_ n_).length) (([hullS x16 x17] ++ restS l i_ k_ n_).flatMap spanE)] [SlAt 2 v l.length (l.flatMap spanE)]  w') _ ⟨0, _, ⟨(Nat.zero_le _), rfl⟩, ⟨rfl, rfl, rfl, rfl, rfl, rfl, rfl, rfl, rfl, rfl, rfl, rfl, rfl, rfl, rfl, rfl, rfl, rfl, rfl, rfl, rfl, rfl, rfl, rfl, rfl, rfl, rfl, rfl, rfl, rfl, rfl, rfl, rfl, rfl, rfl, rfl, rfl, rfl, rfl, rfl, rfl, rfl, rfl, rfl, rfl, rfl, rfl, rfl, rfl, rfl, rfl⟩, M⟩ ?_
        rintro _ ρ27 w26 ⟨n_, ov_, ⟨hi28, rfl⟩, hρ, M⟩
        obtain ⟨ρ27, rfl⟩ := hρ.know
        clear hρ
        have sl29 : IsSl ov_ := SlAt.isSl (own_slAt (M.chunk 0 rfl).inv)
        have hrl_ := restS_len (l := l) (i := i_) (k := k_) n_ (by omega) (by omega)
        have hrm_ : ([hullS x16 x17] ++ restS l i_ k_ n_).length ≤ 1000001 := by rw [List.length_append, List.length_singleton]; omega
        refine W.seq' ?_
        refine W.seq' ?_
        refine W.region rfl ?_
        refine WL.step (v := (Value.int .i64 ↑n_)) rfl (Step.move rfl) ?_
        refine WL.step (v := v) rfl (Step.move rfl) ?_
        refine WL.step (v := (Value.int .i64 ↑l.length)) rfl (Step.lenSl Try.un59 rfl (M.rep 0 rfl)) ?_
        refine WL.step (v := (Value.bool (decide ((↑n_ : Int) < (↑l.length : Int))))) rfl (Step.pure (by kernel_rfl)) ?_
        refine WL.nil ?_
        refine W.cond (t := decide ((↑n_ : Int) < (↑l.length : Int))) rfl (fun h30 => ?_) (fun h30 => ?_)
        ·
          have h30p := of_decide_eq_true h30
          refine W.skip ?_
          refine W.seq' ?_
          refine W.block ?_
          refine W.seq' ?_
          refine W.region rfl ?_
          refine WL.step (v := (Value.int .i64 ↑n_)) rfl (Step.move rfl) ?_
          refine WL.step (v := (Value.int .i64 ↑i_)) rfl (Step.move rfl) ?_
          refine WL.step (v := (Value.bool ((↑n_ : Int) != (↑i_ : Int)))) rfl (Step.pure (by kernel_rfl)) ?_
          refine WL.step (v := (Value.bool ((↑n_ : Int) != (↑i_ : Int)))) rfl (Step.move rfl) ?_
          rcases Bool.eq_false_or_eq_true ((↑n_ : Int) != (↑i_ : Int)) with h31 | h31
          ·
            have h31p : ¬ (↑n_ : Int) = (↑i_ : Int) := by simpa using h31
            rw [h31]
            refine WL.step (v := (Value.int .i64 ↑n_)) rfl (Step.move rfl) ?_
            refine WL.step (v := (Value.int .i64 ↑k_)) rfl (Step.move rfl) ?_
            refine WL.step (v := (Value.bool ((↑n_ : Int) != (↑k_ : Int)))) rfl (Step.pure (by kernel_rfl)) ?_
            refine WL.step (v := (Value.bool ((↑n_ : Int) != (↑k_ : Int)))) rfl (Step.pick (t := true) rfl rfl) ?_
            refine WL.nil ?_
            refine W.cond (t := (↑n_ : Int) != (↑k_ : Int)) rfl (fun h32 => ?_) (fun h32 => ?_)
            ·
              have h32p : ¬ (↑n_ : Int) = (↑k_ : Int) := by simpa using h32
              refine W.region rfl ?_
              refine WL.step (v := ov_) rfl (Step.move rfl) ?_
              refine WL.step (v := v) rfl (Step.move rfl) ?_
              refine WL.step (v := (Value.int .i64 ↑n_)) rfl (Step.move rfl) ?_
              obtain ⟨x33, hx33⟩ := elem_of_lt (xs := l) (i := n_) (by omega)
              refine WL.step (v := (Value.pointer (some ⟨(sBlk v), sOff v + n_ * 2, none⟩))) rfl (Step.indexAddr (i := n_) (Try.un59).run Try.el62.sized rfl rfl (by omega) hb14 (by omega)) ?_
              refine WL.step (v := (Value.agg #[(Value.int .i64 x33.start), (Value.int .i64 x33.fin)])) rfl (Step.loadEN (k := 0) (cs' := [(Value.int .i64 x33.start), (Value.int .i64 x33.fin)]) Try.ag62 (flat_ec (M.rep 0 rfl) hx33 spanE_len) (by decide) rfl rfl rfl) ?_
              refine WL.new (obj := .cells #[(Value.int .i64 x33.start), (Value.int .i64 x33.fin)] 62) (fun b => .slice (some ⟨b, 0, none⟩) 1 1) M rfl (fun w => Step.make (by kernel_rfl)) (fun b34 w35 hb34 M => ?_)
              refine WL.does rfl (M.appendF ([hullS x16 x17] ++ restS l i_ k_ n_) ([x33] : List Span) (sv := (Value.slice (some ⟨b34, 0, none⟩) 1 1)) 1 Try.un59 Try.el62 rfl (by decide) rfl rfl rfl (SlAt.of_blk (M.blk 0 rfl) rfl (by decide)) spanE_cel (by have := hrm_; simp only [maxLen, List.length_nil, List.length_cons, List.length_append]; omega) (by have := hrm_; (try simp only [List.length_nil, List.length_cons, List.length_append]); omega)) ?_
              rintro v36 w37 M
              replace M : Mem _ _ _ [blk b34 (.cells #[(Value.int .i64 x33.start), (Value.int .i64 x33.fin)] 62), own 62 2 v36 ((([hullS x16 x17] ++ restS l i_ k_ n_) ++ ([x33] : List Span)).length) ((([hullS x16 x17] ++ restS l i_ k_ n_) ++ ([x33] : List Span)).flatMap spanE)] [SlAt 2 v l.length (l.flatMap spanE)] _ := M
              have sl38 : IsSl v36 := SlAt.isSl (own_slAt (M.chunk 1 rfl).inv)
              refine WL.step (v := v36) rfl (Step.assign rfl) ?_
              refine WL.nil ?_
              refine W.region rfl ?_
              refine WL.step (v := (Value.int .i64 ↑n_)) rfl (Step.move rfl) ?_
              refine WL.step (v := (Value.int .i64 (↑n_ + 1))) rfl (Step.add rfl rfl (wrap_i64 (by omega))) ?_
              refine WL.step (v := (Value.int .i64 (↑n_ + 1))) rfl (Step.assign rfl) ?_
              refine WL.nil ?_
              replace M := M.rechunk 1 (c' := own 62 2 v36 (([hullS x16 x17] ++ restS l i_ k_ (n_ + 1)).length) (([hullS x16 x17] ++ restS l i_ k_ (n_ + 1)).flatMap spanE)) rfl (by rw [restS_hit hx33 (by omega) (by omega), List.append_assoc])
              replace M : Mem _ _ _ [blk b34 (.cells #[(Value.int .i64 x33.start), (Value.int .i64 x33.fin)] 62), own 62 2 v36 (([hullS x16 x17] ++ restS l i_ k_ (n_ + 1)).length) (([hullS x16 x17] ++ restS l i_ k_ (n_ + 1)).flatMap spanE)] [SlAt 2 v l.length (l.flatMap spanE)] _ := M
              replace M := M.sel (L' := [own 62 2 v36 (([hullS x16 x17] ++ restS l i_ k_ (n_ + 1)).length) (([hullS x16 x17] ++ restS l i_ k_ (n_ + 1)).flatMap spanE)]) [1] rfl (by decide)
              exact ⟨_, (by omega), n_ + 1, _, ⟨(by omega), rfl⟩, ⟨rfl, rfl, rfl, rfl, rfl, rfl, rfl, rfl, rfl, rfl, rfl, rfl, rfl, rfl, rfl, rfl, rfl, rfl, rfl, rfl, rfl, rfl, rfl, rfl, rfl, rfl, rfl, rfl, rfl, rfl, rfl, rfl, rfl, rfl, rfl, rfl, rfl, rfl, rfl, rfl, rfl, rfl, rfl, rfl, rfl, rfl, rfl, rfl, rfl, rfl, rfl⟩, M⟩
            ·
              have h32p : (↑n_ : Int) = (↑k_ : Int) := by simpa using h32
              refine W.skip ?_
              refine W.region rfl ?_
              refine WL.step (v := (Value.int .i64 ↑n_)) rfl (Step.move rfl) ?_
              refine WL.step (v := (Value.int .i64 (↑n_ + 1))) rfl (Step.add rfl rfl (wrap_i64 (by omega))) ?_
              refine WL.step (v := (Value.int .i64 (↑n_ + 1))) rfl (Step.assign rfl) ?_
              refine WL.nil ?_
              replace M := M.rechunk 0 (c' := own 62 2 ov_ (([hullS x16 x17] ++ restS l i_ k_ (n_ + 1)).length) (([hullS x16 x17] ++ restS l i_ k_ (n_ + 1)).flatMap spanE)) rfl (by rw [restS_pass (by omega)])
              replace M : Mem _ _ _ [own 62 2 ov_ (([hullS x16 x17] ++ restS l i_ k_ (n_ + 1)).length) (([hullS x16 x17] ++ restS l i_ k_ (n_ + 1)).flatMap spanE)] [SlAt 2 v l.length (l.flatMap spanE)] _ := M
              exact ⟨_, (by omega), n_ + 1, _, ⟨(by omega), rfl⟩, ⟨rfl, rfl, rfl, rfl, rfl, rfl, rfl, rfl, rfl, rfl, rfl, rfl, rfl, rfl, rfl, rfl, rfl, rfl, rfl, rfl, rfl, rfl, rfl, rfl, rfl, rfl, rfl, rfl, rfl, rfl, rfl, rfl, rfl, rfl, rfl, rfl, rfl, rfl, rfl, rfl, rfl, rfl, rfl, rfl, rfl, rfl, rfl, rfl, rfl, rfl, rfl⟩, M⟩
          ·
            have h31p : (↑n_ : Int) = (↑i_ : Int) := by simpa using h31
            rw [h31]
            refine WL.pass rfl ?_
            refine WL.pass rfl ?_
            refine WL.pass rfl ?_
            refine WL.step (v := (Value.bool false)) rfl (Step.pick (t := false) rfl rfl) ?_
            refine WL.nil ?_
            refine W.cond (t := false) rfl (fun h => by cases h) (fun _ => ?_)
            refine W.skip ?_
            refine W.region rfl ?_
            refine WL.step (v := (Value.int .i64 ↑n_)) rfl (Step.move rfl) ?_
            refine WL.step (v := (Value.int .i64 (↑n_ + 1))) rfl (Step.add rfl rfl (wrap_i64 (by omega))) ?_
            refine WL.step (v := (Value.int .i64 (↑n_ + 1))) rfl (Step.assign rfl) ?_
            refine WL.nil ?_
            replace M := M.rechunk 0 (c' := own 62 2 ov_ (([hullS x16 x17] ++ restS l i_ k_ (n_ + 1)).length) (([hullS x16 x17] ++ restS l i_ k_ (n_ + 1)).flatMap spanE)) rfl (by rw [restS_pass (by omega)])
            replace M : Mem _ _ _ [own 62 2 ov_ (([hullS x16 x17] ++ restS l i_ k_ (n_ + 1)).length) (([hullS x16 x17] ++ restS l i_ k_ (n_ + 1)).flatMap spanE)] [SlAt 2 v l.length (l.flatMap spanE)] _ := M
            exact ⟨_, (by omega), n_ + 1, _, ⟨(by omega), rfl⟩, ⟨rfl, rfl, rfl, rfl, rfl, rfl, rfl, rfl, rfl, rfl, rfl, rfl, rfl, rfl, rfl, rfl, rfl, rfl, rfl, rfl, rfl, rfl, rfl, rfl, rfl, rfl, rfl, rfl, rfl, rfl, rfl, rfl, rfl, rfl, rfl, rfl, rfl, rfl, rfl, rfl, rfl, rfl, rfl, rfl, rfl, rfl, rfl, rfl, rfl, rfl, rfl⟩, M⟩
        ·
          have h30p := of_decide_eq_false h30
          refine W.exit ?_
          refine thn_exit ?_
          refine thn_exit ?_
          refine inBlk_hit ?_
          refine W.seq' ?_
          refine W.region rfl ?_
          refine WL.step (v := ov_) rfl (Step.move rfl) ?_
          refine WL.step (v := ov_) rfl (Step.assign rfl) ?_
          refine WL.step (v := (Value.bool true)) rfl (Step.assign rfl) ?_
          refine WL.nil ?_
          refine W.ret ?_
          refine ⟨.inl rfl, (Value.tuple #[ov_, (Value.bool true)]), ?_, ?_⟩
          · exact ⟨rfl, (Res.r2 (show RV _ _ _ (.tmp 2) ov_ from by exact rfl) (show RV _ _ _ (.tmp 3) (Value.bool true) from by exact rfl))⟩
          replace M := M.shareOwn 0 rfl
          replace M : Mem _ _ _ [] [SlAt 2 ov_ ([hullS x16 x17] ++ restS l i_ k_ n_).length (([hullS x16 x17] ++ restS l i_ k_ n_).flatMap spanE), SlAt 2 v l.length (l.flatMap spanE)] _ := M
          have e39 : (mergeS l).1 = [hullS x16 x17] ++ restS l i_ k_ n_ := by
            rw [mergeS_hit hx16 hx17 ⟨by omega, ⟨_, _, hx16, hx17, by simpa using h19⟩, hi6, hi12⟩, show n_ = l.length by omega]
          have hf40 := Sh.reList e39 (M.shr' 0 rfl)
          refine ⟨ov_, ?_, M.close [] rfl (by decide) ⟨hf40, trivial⟩⟩
          rw [mergeS_hit hx16 hx17 ⟨by omega, ⟨_, _, hx16, hx17, by simpa using h19⟩, hi6, hi12⟩]
    ·
      have h13p := of_decide_eq_false h13
      refine W.exit ?_
      refine thn_exit ?_
      refine thn_exit ?_
      refine inBlk_hit ?_
      refine W.region rfl ?_
      refine WL.step (v := (Value.int .i64 ↑i_)) rfl (Step.move rfl) ?_
      refine WL.step (v := (Value.int .i64 (↑i_ + 1))) rfl (Step.add rfl rfl (wrap_i64 (by omega))) ?_
      refine WL.step (v := (Value.int .i64 (↑i_ + 1))) rfl (Step.assign rfl) ?_
      refine WL.nil ?_
      exact ⟨_, (by omega), i_ + 1, ⟨(by omega), (apart_step hi6 hi12 (by omega)), rfl⟩, ⟨rfl, rfl, rfl, rfl⟩, M⟩
  ·
    have h7p := of_decide_eq_false h7
    refine W.exit ?_
    refine thn_exit ?_
    refine thn_exit ?_
    refine inBlk_hit ?_
    refine W.seq' ?_
    refine W.region rfl ?_
    refine WL.step (v := v) rfl (Step.move rfl) ?_
    refine WL.step (v := v) rfl (Step.assign rfl) ?_
    refine WL.step (v := (Value.bool false)) rfl (Step.assign rfl) ?_
    refine WL.nil ?_
    refine W.ret ?_
    refine ⟨.inl rfl, (Value.tuple #[v, (Value.bool false)]), ?_, ?_⟩
    · exact ⟨rfl, (Res.r2 (show RV _ _ _ (.tmp 2) v from by exact rfl) (show RV _ _ _ (.tmp 3) (Value.bool false) from by exact rfl))⟩
    have e41 : (mergeS l).1 = l := by
      rw [mergeS_miss hi6 (by omega)]
    have hf42 := Sh.reList e41 (M.shr' 0 rfl)
    refine ⟨v, ?_, M.close [] rfl (by decide) ⟨hf42, trivial⟩⟩
    rw [mergeS_miss hi6 (by omega)]
end Go.Proofs
