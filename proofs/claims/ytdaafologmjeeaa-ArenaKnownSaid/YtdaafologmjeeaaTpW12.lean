/- Walks. -/
import Derived.Test.YtdaafologmjeeaaTpW11
import Derived.Test.YtdaafologmjeeaaTpOps3
set_option maxRecDepth 100000
set_option linter.all false
namespace Go.Proofs
open Go Tp
theorem Try.en3 : Enters Try.prog 3 := fun _ _ => by kernel_rfl
theorem Try.en4 : Enters Try.prog 4 := fun _ _ => by kernel_rfl
theorem Try.en5 : Enters Try.prog 5 := fun _ _ => by kernel_rfl
theorem Try.en6 : Enters Try.prog 6 := fun _ _ => by kernel_rfl

theorem law_known {G : Nat → Prop} {w : World}   (M : Mem G (fun _ => False) w [] [] w) : Rets Try.prog 7 #[] w fun r w' => r = (Value.bool true) ∧ Mem G (fun _ => False) w [] [] w' := by
  refine Rets.enter 99 _ Try.func7 rfl Try.ntmps7 Try.results7 (by simp) ?_
  have hbig : True := trivial
  refine W.seq' ?_
  refine W.region rfl ?_
  refine WL.step (v := (Value.bool false)) rfl (Step.assign rfl) ?_
  refine WL.nil ?_
  refine W.seq' ?_
  refine W.seq' ?_
  refine W.region rfl ?_
  refine WL.step (v := (Value.int .i64 0)) rfl (Step.assign rfl) ?_
  refine WL.nil ?_
  refine W.block ?_
  refine W.loop (fun kk ρ w' => ∃ (n_ : Nat), ((n_ ≤ 1026) ∧ kk = 1100 - n_) ∧ ρ.has [(1, (Value.int .i64 ↑n_))] ∧ Mem G (fun _ => False) w [] []  w') _ ⟨0, ⟨(by decide), rfl⟩, ⟨rfl, trivial⟩, M⟩ ?_
  rintro _ ρ2 w1 ⟨n_, ⟨hi3, rfl⟩, hρ, M⟩
  obtain ⟨ρ2, rfl⟩ := hρ.know
  clear hρ
  refine W.seq' ?_
  refine W.seq' ?_
  refine W.region rfl ?_
  refine WL.step (v := (Value.int .i64 ↑n_)) rfl (Step.move rfl) ?_
  refine WL.step (v := (Value.bool (decide ((↑n_ : Int) < (1024 : Int))))) rfl (Step.pure (by kernel_rfl)) ?_
  refine WL.nil ?_
  refine W.cond (t := decide ((↑n_ : Int) < (1024 : Int))) rfl (fun h4 => ?_) (fun h4 => ?_)
  ·
    have h4p := of_decide_eq_true h4
    refine W.skip ?_
    refine W.seq' ?_
    refine W.block ?_
    refine W.seq' ?_
    refine W.region rfl ?_
    refine WL.step (v := (Value.slice none 0 0)) rfl (Step.assign rfl) ?_
    refine WL.nil ?_
    refine W.seq' ?_
    refine W.region rfl ?_
    refine WL.step (v := (Value.slice none 0 0)) rfl (Step.assign rfl) ?_
    refine WL.nil ?_
    refine W.seq' ?_
    refine W.region rfl ?_
    refine WL.step (v := (Value.int .i64 ↑n_)) rfl (Step.move rfl) ?_
    refine WL.step (v := (Value.int .i64 ↑n_)) rfl (Step.assign rfl) ?_
    refine WL.nil ?_
    refine W.seq' ?_
    refine W.seq' ?_
    refine W.region rfl ?_
    refine WL.step (v := (Value.int .i64 0)) rfl (Step.assign rfl) ?_
    refine WL.nil ?_
    refine W.block ?_
    replace M := (M.ownNil 3 1).ownNil 51 6
    replace M : Mem _ _ _ [own 51 6 (Value.slice none 0 0) (([] : List AAct).length) ([] : List Value), own 3 1 (Value.slice none 0 0) (([] : List Int).length) (([] : List Int).flatMap intE)] [] _ := M
    replace M := M.add_pure (r' := RepL ActT [] []) (fun w => repL_nil)
    replace M : Mem _ _ _ [own 51 6 (Value.slice none 0 0) (([] : List AAct).length) ([] : List Value), own 3 1 (Value.slice none 0 0) (([] : List Int).length) (([] : List Int).flatMap intE)] [RepL ActT ([]) ([])] _ := M
    refine W.loop (fun kk ρ w' => ∃ (i_ : Nat) (lv_ : Value) (cs_ : List Value) (xs_ : List AAct) (tv_ : Value) (ts_ : List Int) (k_ : Int), ((i_ ≤ 5) ∧ (xs_.length = i_) ∧ (ts_.length = i_) ∧ (0 ≤ k_) ∧ (k_ ≤ 2000) ∧ kk = 5 - i_) ∧ ρ.has [(1, (Value.int .i64 ↑n_)), (2, lv_), (3, tv_), (4, (Value.int .i64 k_)), (5, (Value.int .i64 ↑i_)), (7, (Value.int .i64 ↑n_)), (8, (Value.bool (decide ((↑n_ : Int) < (1024 : Int))))), (11, (Value.int .i64 ↑n_))] ∧ Mem G (fun _ => False) w [own 51 6 lv_ xs_.length cs_, own 3 1 tv_ ts_.length (ts_.flatMap intE)] [RepL ActT cs_ xs_]  w') _ ⟨0, _, [], [], _, [], _, ⟨(by decide), rfl, rfl, (by omega), (by omega), rfl⟩, ⟨rfl, rfl, rfl, rfl, rfl, rfl, rfl, rfl, trivial⟩, M⟩ ?_
    rintro _ ρ6 w5 ⟨i_, lv_, cs_, xs_, tv_, ts_, k_, ⟨hi7, hi8, hi9, hi10, hi11, rfl⟩, hρ, M⟩
    obtain ⟨ρ6, rfl⟩ := hρ.know
    clear hρ
    have sl12 : IsSl lv_ := SlAt.isSl (own_slAt (M.chunk 0 rfl).inv)
    have sl13 : IsSl tv_ := SlAt.isSl (own_slAt (M.chunk 1 rfl).inv)
    refine W.seq' ?_
    refine W.seq' ?_
    refine W.region rfl ?_
    refine WL.step (v := (Value.int .i64 ↑i_)) rfl (Step.move rfl) ?_
    refine WL.step (v := (Value.bool (decide ((↑i_ : Int) < (5 : Int))))) rfl (Step.pure (by kernel_rfl)) ?_
    refine WL.nil ?_
    refine W.cond (t := decide ((↑i_ : Int) < (5 : Int))) rfl (fun h14 => ?_) (fun h14 => ?_)
    ·
      have h14p := of_decide_eq_true h14
      refine W.skip ?_
      refine W.seq' ?_
      refine W.block ?_
      refine W.seq' ?_
      refine W.region rfl ?_
      refine WL.step (v := (Value.int .i64 k_)) rfl (Step.move rfl) ?_
      refine WL.step (v := (Value.int .i64 ((k_ : Int) % 3))) rfl (Step.remN rfl rfl (by omega) (by decide)) ?_
      refine WL.step (v := (Value.int .i64 k_)) rfl (Step.move rfl) ?_
      refine WL.step (v := (Value.int .i64 ((k_ : Int) / 3))) rfl (Step.quoN rfl rfl (by omega) (by decide) (wrap_i64 (by omega))) ?_
      refine WL.step (v := (Value.int .i64 (((k_ : Int) / 3 : Int) % 2))) rfl (Step.remN rfl rfl (by omega) (by decide)) ?_
      refine WL.step (v := (Value.int .i64 (1 + (((k_ : Int) / 3 : Int) % 2)))) rfl (Step.add rfl rfl (wrap_i64 (by omega))) ?_
      refine WL.step (v := (Value.agg #[(Value.int .i64 ((k_ : Int) % 3)), (Value.int .i64 (1 + (((k_ : Int) / 3 : Int) % 2)))])) rfl (Step.pure (by kernel_rfl)) ?_
      refine WL.alloc (c := #[(Value.int .i64 0), (Value.int .i64 0)]) M rfl Try.el29.zero rfl (fun b15 w16 hb15 M => ?_)
      refine WL.store (v := (Value.agg #[(Value.int .i64 ((k_ : Int) % 3)), (Value.int .i64 (1 + (((k_ : Int) / 3 : Int) % 2)))])) (cs := [(Value.int .i64 ((k_ : Int) % 3)), (Value.int .i64 (1 + (((k_ : Int) / 3 : Int) % 2)))]) (c' := #[(Value.int .i64 ((k_ : Int) % 3)), (Value.int .i64 (1 + (((k_ : Int) / 3 : Int) % 2)))]) M 0 rfl rfl Try.el29.sized rfl rfl rfl rfl (Nat.le_of_ble_eq_true rfl) (cel_cons rfl (cel_cons rfl cel_nil)) rfl rfl (fun w17 M => ?_)
      refine WL.nil ?_
      refine W.seq' ?_
      refine W.drawn M [0, 1, 2, 3, 4, 5, 7, 8, 10, 12, 15, 16, 17, 18, 20, 21, 22, 6, 9, 11, 13, 14, 19, 23, 24, 25, 26, 27] [26] [6, 11, 13, 19, 25] [blk b15 (.cells #[(Value.int .i64 ((k_ : Int) % 3)), (Value.int .i64 (1 + (((k_ : Int) / 3 : Int) % 2)))] 29), own 3 1 tv_ ts_.length (ts_.flatMap intE)] [RepL ActT cs_ xs_] (List.Sublist.cons_cons _ (List.Sublist.cons _ (List.Sublist.cons_cons _ List.Sublist.slnil))) (fun _ h => h) Try.mixed (by kernel_rfl) ?_
      refine TW.pure (v := lv_) rfl (by decide) (by decide) rfl (fun w => (Step.move rfl)) ?_
      refine TW.pure (v := (Value.int .i64 k_)) rfl (by decide) (by decide) rfl (fun w => (Step.move rfl)) ?_
      refine TW.pure (v := (Value.int .i64 ((k_ : Int) % 4))) rfl (by decide) (by decide) rfl (fun w => (Step.remN rfl rfl (by omega) (by decide))) ?_
      refine TW.pure (v := (Value.int .i64 k_)) rfl (by decide) (by decide) rfl (fun w => (Step.move rfl)) ?_
      refine TW.pure (v := (Value.int .i64 ((k_ : Int) % 2))) rfl (by decide) (by decide) rfl (fun w => (Step.remN rfl rfl (by omega) (by decide))) ?_
      refine TW.pure (v := (Value.bool (((k_ : Int) % 2 : Int) == (0 : Int)))) rfl (by decide) (by decide) rfl (fun w => (Step.pure (by kernel_rfl))) ?_
      refine TW.pure (v := (Value.int .i64 k_)) rfl (by decide) (by decide) rfl (fun w => (Step.move rfl)) ?_
      refine TW.pure (v := (Value.int .i64 ((k_ : Int) % 2))) rfl (by decide) (by decide) rfl (fun w => (Step.remN rfl rfl (by omega) (by decide))) ?_
      refine TW.pure (v := (Value.int .i64 k_)) rfl (by decide) (by decide) rfl (fun w => (Step.move rfl)) ?_
      refine TW.read (v := (Value.agg #[(Value.int .i64 ((k_ : Int) % 3)), (Value.int .i64 (1 + (((k_ : Int) / 3 : Int) % 2)))])) rfl (by decide) (by decide) rfl (fun A w M => (Step.loadN Try.ag29 rfl (M.blk 1 rfl) (Nat.le_of_ble_eq_true rfl) rfl)) ?_
      refine TW.read (v := (Value.agg #[(Value.int .i64 ((k_ : Int) % 3)), (Value.int .i64 (1 + (((k_ : Int) / 3 : Int) % 2)))])) rfl (by decide) (by decide) rfl (fun A w M => (Step.loadN Try.ag29 rfl (M.blk 1 rfl) (Nat.le_of_ble_eq_true rfl) rfl)) ?_
      refine TW.pure (v := (Value.int .i64 k_)) rfl (by decide) (by decide) rfl (fun w => (Step.move rfl)) ?_
      refine TW.pure (v := (Value.int .i64 ((k_ : Int) % 2))) rfl (by decide) (by decide) rfl (fun w => (Step.remN rfl rfl (by omega) (by decide))) ?_
      refine TW.pure (v := (Value.agg #[(Value.int .i64 ((k_ : Int) % 2)), (Value.int .i64 1)])) rfl (by decide) (by decide) rfl (fun w => (Step.pure (by kernel_rfl))) ?_
      refine TW.pure (v := (Value.int .i64 k_)) rfl (by decide) (by decide) rfl (fun w => (Step.move rfl)) ?_
      refine TW.pure (v := (Value.int .i64 ((k_ : Int) / 2))) rfl (by decide) (by decide) rfl (fun w => (Step.quoN rfl rfl (by omega) (by decide) (wrap_i64 (by omega)))) ?_
      refine TW.pure (v := (Value.int .i64 (((k_ : Int) / 2 : Int) % 3))) rfl (by decide) (by decide) rfl (fun w => (Step.remN rfl rfl (by omega) (by decide))) ?_
      refine TW.new (obj := .cells #[(Value.string (⟨#[97]⟩))] 9) (fun b => .slice (some ⟨b, 0, none⟩) 1 1) rfl (by decide) (by decide) rfl (fun w => Step.make (by kernel_rfl)) (fun b42 => ?_)
      refine TW.pure (v := (Value.slice (some ⟨b42, 0, none⟩) (((k_ : Int) % 2).toNat) 1)) rfl (by decide) (by decide) rfl (fun w => (Step.sliceH (h := ((k_ : Int) % 2).toNat) Try.un34 Try.el9.sized rfl rfl (by omega) rfl (by omega))) ?_
      refine TW.new (obj := .cells #[(Value.int .i64 k_)] 3) (fun b => .slice (some ⟨b, 0, none⟩) 1 1) rfl (by decide) (by decide) rfl (fun w => Step.make (by kernel_rfl)) (fun b43 => ?_)
      refine TW.new (obj := .cells #[(Value.int .i64 ((k_ : Int) % 3)), (Value.int .i64 (1 + (((k_ : Int) / 3 : Int) % 2)))] 29) (fun b => .slice (some ⟨b, 0, none⟩) 1 1) rfl (by decide) (by decide) rfl (fun w => Step.make (by kernel_rfl)) (fun b44 => ?_)
      refine TW.pure (v := (Value.agg #[(Value.bool (((k_ : Int) % 2 : Int) == (0 : Int))), (Value.slice (some ⟨b42, 0, none⟩) (((k_ : Int) % 2).toNat) 1), (Value.slice (some ⟨b44, 0, none⟩) 1 1), (Value.slice (some ⟨b43, 0, none⟩) 1 1)])) rfl (by decide) (by decide) rfl (fun w => (Step.pure (by kernel_rfl))) ?_
      refine TW.new (obj := .cells #[(Value.int .i64 ((k_ : Int) % 3)), (Value.int .i64 (1 + (((k_ : Int) / 3 : Int) % 2))), (Value.int .i64 ((k_ : Int) % 2)), (Value.int .i64 1)] 29) (fun b => .slice (some ⟨b, 0, none⟩) 2 2) rfl (by decide) (by decide) rfl (fun w => Step.make (by kernel_rfl)) (fun b45 => ?_)
      refine TW.pure (v := (Value.slice (some ⟨b45, 0, none⟩) ((((k_ : Int) / 2 : Int) % 3).toNat) 2)) rfl (by decide) (by decide) rfl (fun w => (Step.sliceH (h := (((k_ : Int) / 2 : Int) % 3).toNat) Try.un26 Try.el29.sized rfl rfl (by omega) rfl (by omega))) ?_
      refine TW.pure (v := (Value.agg #[(Value.int .i64 ((k_ : Int) % 4)), (Value.bool (((k_ : Int) % 2 : Int) == (0 : Int))), (Value.slice (some ⟨b42, 0, none⟩) (((k_ : Int) % 2).toNat) 1), (Value.slice (some ⟨b44, 0, none⟩) 1 1), (Value.slice (some ⟨b43, 0, none⟩) 1 1), (Value.slice (some ⟨b45, 0, none⟩) ((((k_ : Int) / 2 : Int) % 3).toNat) 2)])) rfl (by decide) (by decide) rfl (fun w => (Step.pure (by kernel_rfl))) ?_
      refine TW.new (obj := .cells #[(Value.int .i64 ((k_ : Int) % 4)), (Value.bool (((k_ : Int) % 2 : Int) == (0 : Int))), (Value.slice (some ⟨b42, 0, none⟩) (((k_ : Int) % 2).toNat) 1), (Value.slice (some ⟨b44, 0, none⟩) 1 1), (Value.slice (some ⟨b43, 0, none⟩) 1 1), (Value.slice (some ⟨b45, 0, none⟩) ((((k_ : Int) / 2 : Int) % 3).toNat) 2)] 51) (fun b => .slice (some ⟨b, 0, none⟩) 1 1) rfl (by decide) (by decide) rfl (fun w => Step.make (by kernel_rfl)) (fun b46 => ?_)
      refine TW.doesM (fun v_ => own 51 6 v_ (xs_.length + 1) (cs_ ++ ([(Value.int .i64 ((k_ : Int) % 4)), (Value.bool (((k_ : Int) % 2 : Int) == (0 : Int))), (Value.slice (some ⟨b42, 0, none⟩) (((k_ : Int) % 2).toNat) 1), (Value.slice (some ⟨b44, 0, none⟩) 1 1), (Value.slice (some ⟨b43, 0, none⟩) 1 1), (Value.slice (some ⟨b45, 0, none⟩) ((((k_ : Int) / 2 : Int) % 3).toNat) 2)]))) 6 rfl rfl (by decide) rfl (fun v_ => (List.Sublist.cons _ (List.Sublist.cons _ (List.Sublist.cons _ (List.Sublist.cons _ (List.Sublist.cons _ (List.Sublist.cons_cons _ (List.Sublist.cons _ (List.Sublist.cons_cons _ List.Sublist.slnil))))))))) (fun r h => h) (fun A w M => Does.mono (M.append (sv := (Value.slice (some ⟨b46, 0, none⟩) 1 1)) (news := [(Value.int .i64 ((k_ : Int) % 4)), (Value.bool (((k_ : Int) % 2 : Int) == (0 : Int))), (Value.slice (some ⟨b42, 0, none⟩) (((k_ : Int) % 2).toNat) 1), (Value.slice (some ⟨b44, 0, none⟩) 1 1), (Value.slice (some ⟨b43, 0, none⟩) 1 1), (Value.slice (some ⟨b45, 0, none⟩) ((((k_ : Int) / 2 : Int) % 3).toNat) 2)]) 7 Try.un43 Try.el51 rfl (by decide) rfl rfl rfl (SlAt.of_blk (M.blk 1 rfl) rfl (by decide)) (Step.Cellish.one (cel_cons rfl (cel_cons rfl (cel_cons rfl (cel_cons rfl (cel_cons rfl (cel_cons rfl cel_nil))))))) (by have := hbig; simp only [maxLen]; omega) (by have := hbig; omega)) (fun _ _ ⟨_, h1_, h2_⟩ => ⟨h1_, h2_⟩)) (fun v47 hin => ?_)
      obtain ⟨_, _, hin⟩ := hin
      have sl49 : IsSl v47 := SlAt.isSl (own_slAt (Mem.chunk hin 7 rfl).inv)
      clear hin
      change TW _ _ _ _ _ _ _ _ (MemA _ _ _ [blk b46 (.cells #[(Value.int .i64 ((k_ : Int) % 4)), (Value.bool (((k_ : Int) % 2 : Int) == (0 : Int))), (Value.slice (some ⟨b42, 0, none⟩) (((k_ : Int) % 2).toNat) 1), (Value.slice (some ⟨b44, 0, none⟩) 1 1), (Value.slice (some ⟨b43, 0, none⟩) 1 1), (Value.slice (some ⟨b45, 0, none⟩) ((((k_ : Int) / 2 : Int) % 3).toNat) 2)] 51), blk b45 (.cells #[(Value.int .i64 ((k_ : Int) % 3)), (Value.int .i64 (1 + (((k_ : Int) / 3 : Int) % 2))), (Value.int .i64 ((k_ : Int) % 2)), (Value.int .i64 1)] 29), blk b44 (.cells #[(Value.int .i64 ((k_ : Int) % 3)), (Value.int .i64 (1 + (((k_ : Int) / 3 : Int) % 2)))] 29), blk b43 (.cells #[(Value.int .i64 k_)] 3), blk b42 (.cells #[(Value.string (⟨#[97]⟩))] 9), blk b15 (.cells #[(Value.int .i64 ((k_ : Int) % 3)), (Value.int .i64 (1 + (((k_ : Int) / 3 : Int) % 2)))] 29), own 51 6 v47 (xs_.length + 1) (cs_ ++ ([(Value.int .i64 ((k_ : Int) % 4)), (Value.bool (((k_ : Int) % 2 : Int) == (0 : Int))), (Value.slice (some ⟨b42, 0, none⟩) (((k_ : Int) % 2).toNat) 1), (Value.slice (some ⟨b44, 0, none⟩) 1 1), (Value.slice (some ⟨b43, 0, none⟩) 1 1), (Value.slice (some ⟨b45, 0, none⟩) ((((k_ : Int) / 2 : Int) % 3).toNat) 2)])), own 3 1 tv_ ts_.length (ts_.flatMap intE)] [RepL ActT cs_ xs_])
      refine TW.pure (v := v47) rfl (by decide) (by decide) rfl (fun w => (Step.assign rfl)) ?_
      refine TW.done (fun w50 M => ?_)
      refine W.seq' ?_
      refine W.region rfl ?_
      refine WL.step (v := tv_) rfl (Step.move rfl) ?_
      refine WL.step (v := (Value.int .i64 k_)) rfl (Step.move rfl) ?_
      refine WL.step (v := (Value.int .i64 ((k_ : Int) % 5))) rfl (Step.remN rfl rfl (by omega) (by decide)) ?_
      refine WL.step (v := (Value.int .i64 (((k_ : Int) % 5 : Int) - 2))) rfl (Step.sub rfl rfl (wrap_i64 (by omega))) ?_
      refine WL.new (obj := .cells #[(Value.int .i64 (((k_ : Int) % 5 : Int) - 2))] 3) (fun b => .slice (some ⟨b, 0, none⟩) 1 1) M rfl (fun w => Step.make (by kernel_rfl)) (fun b51 w52 hb51 M => ?_)
      refine WL.does rfl (M.appendF ts_ ([(((k_ : Int) % 5 : Int) - 2)] : List Int) (sv := (Value.slice (some ⟨b51, 0, none⟩) 1 1)) 8 Try.un22 Try.el3 rfl (by decide) rfl rfl rfl (SlAt.of_blk (M.blk 0 rfl) rfl (by decide)) intE_cel (by have := hbig; simp only [maxLen, List.length_nil, List.length_cons, List.length_append]; omega) (by have := hbig; (try simp only [List.length_nil, List.length_cons, List.length_append]); omega)) ?_
      rintro v53 w54 M
      replace M : Mem _ _ _ [blk b51 (.cells #[(Value.int .i64 (((k_ : Int) % 5 : Int) - 2))] 3), blk b46 (.cells #[(Value.int .i64 ((k_ : Int) % 4)), (Value.bool (((k_ : Int) % 2 : Int) == (0 : Int))), (Value.slice (some ⟨b42, 0, none⟩) (((k_ : Int) % 2).toNat) 1), (Value.slice (some ⟨b44, 0, none⟩) 1 1), (Value.slice (some ⟨b43, 0, none⟩) 1 1), (Value.slice (some ⟨b45, 0, none⟩) ((((k_ : Int) / 2 : Int) % 3).toNat) 2)] 51), blk b45 (.cells #[(Value.int .i64 ((k_ : Int) % 3)), (Value.int .i64 (1 + (((k_ : Int) / 3 : Int) % 2))), (Value.int .i64 ((k_ : Int) % 2)), (Value.int .i64 1)] 29), blk b44 (.cells #[(Value.int .i64 ((k_ : Int) % 3)), (Value.int .i64 (1 + (((k_ : Int) / 3 : Int) % 2)))] 29), blk b43 (.cells #[(Value.int .i64 k_)] 3), blk b42 (.cells #[(Value.string (⟨#[97]⟩))] 9), blk b15 (.cells #[(Value.int .i64 ((k_ : Int) % 3)), (Value.int .i64 (1 + (((k_ : Int) / 3 : Int) % 2)))] 29), own 51 6 v47 (xs_.length + 1) (cs_ ++ ([(Value.int .i64 ((k_ : Int) % 4)), (Value.bool (((k_ : Int) % 2 : Int) == (0 : Int))), (Value.slice (some ⟨b42, 0, none⟩) (((k_ : Int) % 2).toNat) 1), (Value.slice (some ⟨b44, 0, none⟩) 1 1), (Value.slice (some ⟨b43, 0, none⟩) 1 1), (Value.slice (some ⟨b45, 0, none⟩) ((((k_ : Int) / 2 : Int) % 3).toNat) 2)])), own 3 1 v53 ((ts_ ++ ([(((k_ : Int) % 5 : Int) - 2)] : List Int)).length) ((ts_ ++ ([(((k_ : Int) % 5 : Int) - 2)] : List Int)).flatMap intE)] [RepL ActT cs_ xs_] _ := M
      have sl55 : IsSl v53 := SlAt.isSl (own_slAt (M.chunk 8 rfl).inv)
      refine WL.step (v := v53) rfl (Step.assign rfl) ?_
      refine WL.nil ?_
      refine W.region rfl ?_
      refine WL.step (v := (Value.int .i64 k_)) rfl (Step.move rfl) ?_
      refine WL.step (v := (Value.int .i64 ((k_ : Int) / 4))) rfl (Step.quoN rfl rfl (by omega) (by decide) (wrap_i64 (by omega))) ?_
      refine WL.step (v := (Value.int .i64 ↑i_)) rfl (Step.move rfl) ?_
      refine WL.step (v := (Value.int .i64 (5 * ↑i_))) rfl (Step.mul rfl rfl (wrap_i64 (by omega))) ?_
      refine WL.step (v := (Value.int .i64 ((k_ : Int) / 4 + (5 * ↑i_)))) rfl (Step.add rfl rfl (wrap_i64 (by omega))) ?_
      refine WL.step (v := (Value.int .i64 ((k_ : Int) / 4 + (5 * ↑i_)))) rfl (Step.assign rfl) ?_
      refine WL.nil ?_
      refine W.region rfl ?_
      refine WL.step (v := (Value.int .i64 ↑i_)) rfl (Step.move rfl) ?_
      refine WL.step (v := (Value.int .i64 (↑i_ + 1))) rfl (Step.add rfl rfl (wrap_i64 (by omega))) ?_
      refine WL.step (v := (Value.int .i64 (↑i_ + 1))) rfl (Step.assign rfl) ?_
      refine WL.nil ?_
      replace M := M.shareBlk 5 (n := 1) (size := 1) rfl rfl (by decide)
      replace M : Mem _ _ _ [blk b51 (.cells #[(Value.int .i64 (((k_ : Int) % 5 : Int) - 2))] 3), blk b46 (.cells #[(Value.int .i64 ((k_ : Int) % 4)), (Value.bool (((k_ : Int) % 2 : Int) == (0 : Int))), (Value.slice (some ⟨b42, 0, none⟩) (((k_ : Int) % 2).toNat) 1), (Value.slice (some ⟨b44, 0, none⟩) 1 1), (Value.slice (some ⟨b43, 0, none⟩) 1 1), (Value.slice (some ⟨b45, 0, none⟩) ((((k_ : Int) / 2 : Int) % 3).toNat) 2)] 51), blk b45 (.cells #[(Value.int .i64 ((k_ : Int) % 3)), (Value.int .i64 (1 + (((k_ : Int) / 3 : Int) % 2))), (Value.int .i64 ((k_ : Int) % 2)), (Value.int .i64 1)] 29), blk b44 (.cells #[(Value.int .i64 ((k_ : Int) % 3)), (Value.int .i64 (1 + (((k_ : Int) / 3 : Int) % 2)))] 29), blk b43 (.cells #[(Value.int .i64 k_)] 3), blk b15 (.cells #[(Value.int .i64 ((k_ : Int) % 3)), (Value.int .i64 (1 + (((k_ : Int) / 3 : Int) % 2)))] 29), own 51 6 v47 (xs_.length + 1) (cs_ ++ ([(Value.int .i64 ((k_ : Int) % 4)), (Value.bool (((k_ : Int) % 2 : Int) == (0 : Int))), (Value.slice (some ⟨b42, 0, none⟩) (((k_ : Int) % 2).toNat) 1), (Value.slice (some ⟨b44, 0, none⟩) 1 1), (Value.slice (some ⟨b43, 0, none⟩) 1 1), (Value.slice (some ⟨b45, 0, none⟩) ((((k_ : Int) / 2 : Int) % 3).toNat) 2)])), own 3 1 v53 ((ts_ ++ ([(((k_ : Int) % 5 : Int) - 2)] : List Int)).length) ((ts_ ++ ([(((k_ : Int) % 5 : Int) - 2)] : List Int)).flatMap intE)] [SlAt 1 (Value.slice (some ⟨b42, 0, none⟩) 1 1) ([(⟨#[97]⟩)] : List ByteArray).length (([(⟨#[97]⟩)] : List ByteArray).flatMap strE), RepL ActT cs_ xs_] _ := M
      replace M := M.shareBlk 3 (n := 1) (size := 2) rfl rfl (by decide)
      replace M : Mem _ _ _ [blk b51 (.cells #[(Value.int .i64 (((k_ : Int) % 5 : Int) - 2))] 3), blk b46 (.cells #[(Value.int .i64 ((k_ : Int) % 4)), (Value.bool (((k_ : Int) % 2 : Int) == (0 : Int))), (Value.slice (some ⟨b42, 0, none⟩) (((k_ : Int) % 2).toNat) 1), (Value.slice (some ⟨b44, 0, none⟩) 1 1), (Value.slice (some ⟨b43, 0, none⟩) 1 1), (Value.slice (some ⟨b45, 0, none⟩) ((((k_ : Int) / 2 : Int) % 3).toNat) 2)] 51), blk b45 (.cells #[(Value.int .i64 ((k_ : Int) % 3)), (Value.int .i64 (1 + (((k_ : Int) / 3 : Int) % 2))), (Value.int .i64 ((k_ : Int) % 2)), (Value.int .i64 1)] 29), blk b43 (.cells #[(Value.int .i64 k_)] 3), blk b15 (.cells #[(Value.int .i64 ((k_ : Int) % 3)), (Value.int .i64 (1 + (((k_ : Int) / 3 : Int) % 2)))] 29), own 51 6 v47 (xs_.length + 1) (cs_ ++ ([(Value.int .i64 ((k_ : Int) % 4)), (Value.bool (((k_ : Int) % 2 : Int) == (0 : Int))), (Value.slice (some ⟨b42, 0, none⟩) (((k_ : Int) % 2).toNat) 1), (Value.slice (some ⟨b44, 0, none⟩) 1 1), (Value.slice (some ⟨b43, 0, none⟩) 1 1), (Value.slice (some ⟨b45, 0, none⟩) ((((k_ : Int) / 2 : Int) % 3).toNat) 2)])), own 3 1 v53 ((ts_ ++ ([(((k_ : Int) % 5 : Int) - 2)] : List Int)).length) ((ts_ ++ ([(((k_ : Int) % 5 : Int) - 2)] : List Int)).flatMap intE)] [SlAt 2 (Value.slice (some ⟨b44, 0, none⟩) 1 1) ([(⟨(k_ : Int) % 3, 1 + (((k_ : Int) / 3 : Int) % 2)⟩ : Handle)] : List Handle).length (([(⟨(k_ : Int) % 3, 1 + (((k_ : Int) / 3 : Int) % 2)⟩ : Handle)] : List Handle).flatMap handleE), SlAt 1 (Value.slice (some ⟨b42, 0, none⟩) 1 1) ([(⟨#[97]⟩)] : List ByteArray).length (([(⟨#[97]⟩)] : List ByteArray).flatMap strE), RepL ActT cs_ xs_] _ := M
      replace M := M.shareBlk 3 (n := 1) (size := 1) rfl rfl (by decide)
      replace M : Mem _ _ _ [blk b51 (.cells #[(Value.int .i64 (((k_ : Int) % 5 : Int) - 2))] 3), blk b46 (.cells #[(Value.int .i64 ((k_ : Int) % 4)), (Value.bool (((k_ : Int) % 2 : Int) == (0 : Int))), (Value.slice (some ⟨b42, 0, none⟩) (((k_ : Int) % 2).toNat) 1), (Value.slice (some ⟨b44, 0, none⟩) 1 1), (Value.slice (some ⟨b43, 0, none⟩) 1 1), (Value.slice (some ⟨b45, 0, none⟩) ((((k_ : Int) / 2 : Int) % 3).toNat) 2)] 51), blk b45 (.cells #[(Value.int .i64 ((k_ : Int) % 3)), (Value.int .i64 (1 + (((k_ : Int) / 3 : Int) % 2))), (Value.int .i64 ((k_ : Int) % 2)), (Value.int .i64 1)] 29), blk b15 (.cells #[(Value.int .i64 ((k_ : Int) % 3)), (Value.int .i64 (1 + (((k_ : Int) / 3 : Int) % 2)))] 29), own 51 6 v47 (xs_.length + 1) (cs_ ++ ([(Value.int .i64 ((k_ : Int) % 4)), (Value.bool (((k_ : Int) % 2 : Int) == (0 : Int))), (Value.slice (some ⟨b42, 0, none⟩) (((k_ : Int) % 2).toNat) 1), (Value.slice (some ⟨b44, 0, none⟩) 1 1), (Value.slice (some ⟨b43, 0, none⟩) 1 1), (Value.slice (some ⟨b45, 0, none⟩) ((((k_ : Int) / 2 : Int) % 3).toNat) 2)])), own 3 1 v53 ((ts_ ++ ([(((k_ : Int) % 5 : Int) - 2)] : List Int)).length) ((ts_ ++ ([(((k_ : Int) % 5 : Int) - 2)] : List Int)).flatMap intE)] [SlAt 1 (Value.slice (some ⟨b43, 0, none⟩) 1 1) ([k_] : List Int).length (([k_] : List Int).flatMap intE), SlAt 2 (Value.slice (some ⟨b44, 0, none⟩) 1 1) ([(⟨(k_ : Int) % 3, 1 + (((k_ : Int) / 3 : Int) % 2)⟩ : Handle)] : List Handle).length (([(⟨(k_ : Int) % 3, 1 + (((k_ : Int) / 3 : Int) % 2)⟩ : Handle)] : List Handle).flatMap handleE), SlAt 1 (Value.slice (some ⟨b42, 0, none⟩) 1 1) ([(⟨#[97]⟩)] : List ByteArray).length (([(⟨#[97]⟩)] : List ByteArray).flatMap strE), RepL ActT cs_ xs_] _ := M
      replace M := M.shareBlk 2 (n := 2) (size := 2) rfl rfl (by decide)
      replace M : Mem _ _ _ [blk b51 (.cells #[(Value.int .i64 (((k_ : Int) % 5 : Int) - 2))] 3), blk b46 (.cells #[(Value.int .i64 ((k_ : Int) % 4)), (Value.bool (((k_ : Int) % 2 : Int) == (0 : Int))), (Value.slice (some ⟨b42, 0, none⟩) (((k_ : Int) % 2).toNat) 1), (Value.slice (some ⟨b44, 0, none⟩) 1 1), (Value.slice (some ⟨b43, 0, none⟩) 1 1), (Value.slice (some ⟨b45, 0, none⟩) ((((k_ : Int) / 2 : Int) % 3).toNat) 2)] 51), blk b15 (.cells #[(Value.int .i64 ((k_ : Int) % 3)), (Value.int .i64 (1 + (((k_ : Int) / 3 : Int) % 2)))] 29), own 51 6 v47 (xs_.length + 1) (cs_ ++ ([(Value.int .i64 ((k_ : Int) % 4)), (Value.bool (((k_ : Int) % 2 : Int) == (0 : Int))), (Value.slice (some ⟨b42, 0, none⟩) (((k_ : Int) % 2).toNat) 1), (Value.slice (some ⟨b44, 0, none⟩) 1 1), (Value.slice (some ⟨b43, 0, none⟩) 1 1), (Value.slice (some ⟨b45, 0, none⟩) ((((k_ : Int) / 2 : Int) % 3).toNat) 2)])), own 3 1 v53 ((ts_ ++ ([(((k_ : Int) % 5 : Int) - 2)] : List Int)).length) ((ts_ ++ ([(((k_ : Int) % 5 : Int) - 2)] : List Int)).flatMap intE)] [SlAt 2 (Value.slice (some ⟨b45, 0, none⟩) 2 2) ([(⟨(k_ : Int) % 3, 1 + (((k_ : Int) / 3 : Int) % 2)⟩ : Handle), (⟨(k_ : Int) % 2, 1⟩ : Handle)] : List Handle).length (([(⟨(k_ : Int) % 3, 1 + (((k_ : Int) / 3 : Int) % 2)⟩ : Handle), (⟨(k_ : Int) % 2, 1⟩ : Handle)] : List Handle).flatMap handleE), SlAt 1 (Value.slice (some ⟨b43, 0, none⟩) 1 1) ([k_] : List Int).length (([k_] : List Int).flatMap intE), SlAt 2 (Value.slice (some ⟨b44, 0, none⟩) 1 1) ([(⟨(k_ : Int) % 3, 1 + (((k_ : Int) / 3 : Int) % 2)⟩ : Handle)] : List Handle).length (([(⟨(k_ : Int) % 3, 1 + (((k_ : Int) / 3 : Int) % 2)⟩ : Handle)] : List Handle).flatMap handleE), SlAt 1 (Value.slice (some ⟨b42, 0, none⟩) 1 1) ([(⟨#[97]⟩)] : List ByteArray).length (([(⟨#[97]⟩)] : List ByteArray).flatMap strE), RepL ActT cs_ xs_] _ := M
      replace M := M.add (r := RepL ActT (cs_ ++ [(Value.int .i64 ((k_ : Int) % 4)), (Value.bool (((k_ : Int) % 2 : Int) == (0 : Int))), (Value.slice (some ⟨b42, 0, none⟩) (((k_ : Int) % 2).toNat) 1), (Value.slice (some ⟨b44, 0, none⟩) 1 1), (Value.slice (some ⟨b43, 0, none⟩) 1 1), (Value.slice (some ⟨b45, 0, none⟩) ((((k_ : Int) / 2 : Int) % 3).toNat) 2)]) (xs_ ++ [(⟨(k_ : Int) % 4, ⟨((k_ : Int) % 2 : Int) == (0 : Int), ([(⟨#[97]⟩)] : List ByteArray).take (((k_ : Int) % 2).toNat), ([(⟨(k_ : Int) % 3, 1 + (((k_ : Int) / 3 : Int) % 2)⟩ : Handle)] : List Handle), ([k_] : List Int)⟩, ([(⟨(k_ : Int) % 3, 1 + (((k_ : Int) / 3 : Int) % 2)⟩ : Handle), (⟨(k_ : Int) % 2, 1⟩ : Handle)] : List Handle).take ((((k_ : Int) / 2 : Int) % 3).toNat)⟩ : AAct)])) (((M.shr 4 rfl).and ((M.shr 3 rfl).and ((M.shr 2 rfl).and ((M.shr 1 rfl).and (M.shr 0 rfl))))).imp fun w ⟨hr_, h0_, h1_, h2_, h3_⟩ => repL_snoc hr_ (act_rep (n := ⟨((k_ : Int) % 2 : Int) == (0 : Int), ([(⟨#[97]⟩)] : List ByteArray).take (((k_ : Int) % 2).toNat), ([(⟨(k_ : Int) % 3, 1 + (((k_ : Int) / 3 : Int) % 2)⟩ : Handle)] : List Handle), ([k_] : List Int)⟩) (slat_take (i := ((k_ : Int) % 2).toNat) strE_len h0_ (by (try simp only [List.length_cons, List.length_nil]); omega)) h1_ h2_ (slat_take (i := (((k_ : Int) / 2 : Int) % 3).toNat) handleE_len h3_ (by (try simp only [List.length_cons, List.length_nil]); omega))))
      replace M : Mem _ _ _ [blk b51 (.cells #[(Value.int .i64 (((k_ : Int) % 5 : Int) - 2))] 3), blk b46 (.cells #[(Value.int .i64 ((k_ : Int) % 4)), (Value.bool (((k_ : Int) % 2 : Int) == (0 : Int))), (Value.slice (some ⟨b42, 0, none⟩) (((k_ : Int) % 2).toNat) 1), (Value.slice (some ⟨b44, 0, none⟩) 1 1), (Value.slice (some ⟨b43, 0, none⟩) 1 1), (Value.slice (some ⟨b45, 0, none⟩) ((((k_ : Int) / 2 : Int) % 3).toNat) 2)] 51), blk b15 (.cells #[(Value.int .i64 ((k_ : Int) % 3)), (Value.int .i64 (1 + (((k_ : Int) / 3 : Int) % 2)))] 29), own 51 6 v47 (xs_.length + 1) (cs_ ++ ([(Value.int .i64 ((k_ : Int) % 4)), (Value.bool (((k_ : Int) % 2 : Int) == (0 : Int))), (Value.slice (some ⟨b42, 0, none⟩) (((k_ : Int) % 2).toNat) 1), (Value.slice (some ⟨b44, 0, none⟩) 1 1), (Value.slice (some ⟨b43, 0, none⟩) 1 1), (Value.slice (some ⟨b45, 0, none⟩) ((((k_ : Int) / 2 : Int) % 3).toNat) 2)])), own 3 1 v53 ((ts_ ++ ([(((k_ : Int) % 5 : Int) - 2)] : List Int)).length) ((ts_ ++ ([(((k_ : Int) % 5 : Int) - 2)] : List Int)).flatMap intE)] [RepL ActT (cs_ ++ [(Value.int .i64 ((k_ : Int) % 4)), (Value.bool (((k_ : Int) % 2 : Int) == (0 : Int))), (Value.slice (some ⟨b42, 0, none⟩) (((k_ : Int) % 2).toNat) 1), (Value.slice (some ⟨b44, 0, none⟩) 1 1), (Value.slice (some ⟨b43, 0, none⟩) 1 1), (Value.slice (some ⟨b45, 0, none⟩) ((((k_ : Int) / 2 : Int) % 3).toNat) 2)]) (xs_ ++ [(⟨(k_ : Int) % 4, ⟨((k_ : Int) % 2 : Int) == (0 : Int), ([(⟨#[97]⟩)] : List ByteArray).take (((k_ : Int) % 2).toNat), ([(⟨(k_ : Int) % 3, 1 + (((k_ : Int) / 3 : Int) % 2)⟩ : Handle)] : List Handle), ([k_] : List Int)⟩, ([(⟨(k_ : Int) % 3, 1 + (((k_ : Int) / 3 : Int) % 2)⟩ : Handle), (⟨(k_ : Int) % 2, 1⟩ : Handle)] : List Handle).take ((((k_ : Int) / 2 : Int) % 3).toNat)⟩ : AAct)]), SlAt 2 (Value.slice (some ⟨b45, 0, none⟩) 2 2) ([(⟨(k_ : Int) % 3, 1 + (((k_ : Int) / 3 : Int) % 2)⟩ : Handle), (⟨(k_ : Int) % 2, 1⟩ : Handle)] : List Handle).length (([(⟨(k_ : Int) % 3, 1 + (((k_ : Int) / 3 : Int) % 2)⟩ : Handle), (⟨(k_ : Int) % 2, 1⟩ : Handle)] : List Handle).flatMap handleE), SlAt 1 (Value.slice (some ⟨b43, 0, none⟩) 1 1) ([k_] : List Int).length (([k_] : List Int).flatMap intE), SlAt 2 (Value.slice (some ⟨b44, 0, none⟩) 1 1) ([(⟨(k_ : Int) % 3, 1 + (((k_ : Int) / 3 : Int) % 2)⟩ : Handle)] : List Handle).length (([(⟨(k_ : Int) % 3, 1 + (((k_ : Int) / 3 : Int) % 2)⟩ : Handle)] : List Handle).flatMap handleE), SlAt 1 (Value.slice (some ⟨b42, 0, none⟩) 1 1) ([(⟨#[97]⟩)] : List ByteArray).length (([(⟨#[97]⟩)] : List ByteArray).flatMap strE), RepL ActT cs_ xs_] _ := M
      replace M := M.rechunk 3 (c' := own 51 6 v47 ((xs_ ++ [(⟨(k_ : Int) % 4, ⟨((k_ : Int) % 2 : Int) == (0 : Int), ([(⟨#[97]⟩)] : List ByteArray).take (((k_ : Int) % 2).toNat), ([(⟨(k_ : Int) % 3, 1 + (((k_ : Int) / 3 : Int) % 2)⟩ : Handle)] : List Handle), ([k_] : List Int)⟩, ([(⟨(k_ : Int) % 3, 1 + (((k_ : Int) / 3 : Int) % 2)⟩ : Handle), (⟨(k_ : Int) % 2, 1⟩ : Handle)] : List Handle).take ((((k_ : Int) / 2 : Int) % 3).toNat)⟩ : AAct)]).length) (cs_ ++ [(Value.int .i64 ((k_ : Int) % 4)), (Value.bool (((k_ : Int) % 2 : Int) == (0 : Int))), (Value.slice (some ⟨b42, 0, none⟩) (((k_ : Int) % 2).toNat) 1), (Value.slice (some ⟨b44, 0, none⟩) 1 1), (Value.slice (some ⟨b43, 0, none⟩) 1 1), (Value.slice (some ⟨b45, 0, none⟩) ((((k_ : Int) / 2 : Int) % 3).toNat) 2)])) rfl (by rw [List.length_append]; rfl)
      replace M : Mem _ _ _ [blk b51 (.cells #[(Value.int .i64 (((k_ : Int) % 5 : Int) - 2))] 3), blk b46 (.cells #[(Value.int .i64 ((k_ : Int) % 4)), (Value.bool (((k_ : Int) % 2 : Int) == (0 : Int))), (Value.slice (some ⟨b42, 0, none⟩) (((k_ : Int) % 2).toNat) 1), (Value.slice (some ⟨b44, 0, none⟩) 1 1), (Value.slice (some ⟨b43, 0, none⟩) 1 1), (Value.slice (some ⟨b45, 0, none⟩) ((((k_ : Int) / 2 : Int) % 3).toNat) 2)] 51), blk b15 (.cells #[(Value.int .i64 ((k_ : Int) % 3)), (Value.int .i64 (1 + (((k_ : Int) / 3 : Int) % 2)))] 29), own 51 6 v47 ((xs_ ++ [(⟨(k_ : Int) % 4, ⟨((k_ : Int) % 2 : Int) == (0 : Int), ([(⟨#[97]⟩)] : List ByteArray).take (((k_ : Int) % 2).toNat), ([(⟨(k_ : Int) % 3, 1 + (((k_ : Int) / 3 : Int) % 2)⟩ : Handle)] : List Handle), ([k_] : List Int)⟩, ([(⟨(k_ : Int) % 3, 1 + (((k_ : Int) / 3 : Int) % 2)⟩ : Handle), (⟨(k_ : Int) % 2, 1⟩ : Handle)] : List Handle).take ((((k_ : Int) / 2 : Int) % 3).toNat)⟩ : AAct)]).length) (cs_ ++ [(Value.int .i64 ((k_ : Int) % 4)), (Value.bool (((k_ : Int) % 2 : Int) == (0 : Int))), (Value.slice (some ⟨b42, 0, none⟩) (((k_ : Int) % 2).toNat) 1), (Value.slice (some ⟨b44, 0, none⟩) 1 1), (Value.slice (some ⟨b43, 0, none⟩) 1 1), (Value.slice (some ⟨b45, 0, none⟩) ((((k_ : Int) / 2 : Int) % 3).toNat) 2)]), own 3 1 v53 ((ts_ ++ ([(((k_ : Int) % 5 : Int) - 2)] : List Int)).length) ((ts_ ++ ([(((k_ : Int) % 5 : Int) - 2)] : List Int)).flatMap intE)] [RepL ActT (cs_ ++ [(Value.int .i64 ((k_ : Int) % 4)), (Value.bool (((k_ : Int) % 2 : Int) == (0 : Int))), (Value.slice (some ⟨b42, 0, none⟩) (((k_ : Int) % 2).toNat) 1), (Value.slice (some ⟨b44, 0, none⟩) 1 1), (Value.slice (some ⟨b43, 0, none⟩) 1 1), (Value.slice (some ⟨b45, 0, none⟩) ((((k_ : Int) / 2 : Int) % 3).toNat) 2)]) (xs_ ++ [(⟨(k_ : Int) % 4, ⟨((k_ : Int) % 2 : Int) == (0 : Int), ([(⟨#[97]⟩)] : List ByteArray).take (((k_ : Int) % 2).toNat), ([(⟨(k_ : Int) % 3, 1 + (((k_ : Int) / 3 : Int) % 2)⟩ : Handle)] : List Handle), ([k_] : List Int)⟩, ([(⟨(k_ : Int) % 3, 1 + (((k_ : Int) / 3 : Int) % 2)⟩ : Handle), (⟨(k_ : Int) % 2, 1⟩ : Handle)] : List Handle).take ((((k_ : Int) / 2 : Int) % 3).toNat)⟩ : AAct)]), SlAt 2 (Value.slice (some ⟨b45, 0, none⟩) 2 2) ([(⟨(k_ : Int) % 3, 1 + (((k_ : Int) / 3 : Int) % 2)⟩ : Handle), (⟨(k_ : Int) % 2, 1⟩ : Handle)] : List Handle).length (([(⟨(k_ : Int) % 3, 1 + (((k_ : Int) / 3 : Int) % 2)⟩ : Handle), (⟨(k_ : Int) % 2, 1⟩ : Handle)] : List Handle).flatMap handleE), SlAt 1 (Value.slice (some ⟨b43, 0, none⟩) 1 1) ([k_] : List Int).length (([k_] : List Int).flatMap intE), SlAt 2 (Value.slice (some ⟨b44, 0, none⟩) 1 1) ([(⟨(k_ : Int) % 3, 1 + (((k_ : Int) / 3 : Int) % 2)⟩ : Handle)] : List Handle).length (([(⟨(k_ : Int) % 3, 1 + (((k_ : Int) / 3 : Int) % 2)⟩ : Handle)] : List Handle).flatMap handleE), SlAt 1 (Value.slice (some ⟨b42, 0, none⟩) 1 1) ([(⟨#[97]⟩)] : List ByteArray).length (([(⟨#[97]⟩)] : List ByteArray).flatMap strE), RepL ActT cs_ xs_] _ := M
      replace M := M.sel (L' := [own 51 6 v47 ((xs_ ++ [(⟨(k_ : Int) % 4, ⟨((k_ : Int) % 2 : Int) == (0 : Int), ([(⟨#[97]⟩)] : List ByteArray).take (((k_ : Int) % 2).toNat), ([(⟨(k_ : Int) % 3, 1 + (((k_ : Int) / 3 : Int) % 2)⟩ : Handle)] : List Handle), ([k_] : List Int)⟩, ([(⟨(k_ : Int) % 3, 1 + (((k_ : Int) / 3 : Int) % 2)⟩ : Handle), (⟨(k_ : Int) % 2, 1⟩ : Handle)] : List Handle).take ((((k_ : Int) / 2 : Int) % 3).toNat)⟩ : AAct)]).length) (cs_ ++ [(Value.int .i64 ((k_ : Int) % 4)), (Value.bool (((k_ : Int) % 2 : Int) == (0 : Int))), (Value.slice (some ⟨b42, 0, none⟩) (((k_ : Int) % 2).toNat) 1), (Value.slice (some ⟨b44, 0, none⟩) 1 1), (Value.slice (some ⟨b43, 0, none⟩) 1 1), (Value.slice (some ⟨b45, 0, none⟩) ((((k_ : Int) / 2 : Int) % 3).toNat) 2)]), own 3 1 v53 ((ts_ ++ ([(((k_ : Int) % 5 : Int) - 2)] : List Int)).length) ((ts_ ++ ([(((k_ : Int) % 5 : Int) - 2)] : List Int)).flatMap intE)]) [3, 4] rfl (by decide)
      replace M := M.facts (R' := [RepL ActT (cs_ ++ [(Value.int .i64 ((k_ : Int) % 4)), (Value.bool (((k_ : Int) % 2 : Int) == (0 : Int))), (Value.slice (some ⟨b42, 0, none⟩) (((k_ : Int) % 2).toNat) 1), (Value.slice (some ⟨b44, 0, none⟩) 1 1), (Value.slice (some ⟨b43, 0, none⟩) 1 1), (Value.slice (some ⟨b45, 0, none⟩) ((((k_ : Int) / 2 : Int) % 3).toNat) 2)]) (xs_ ++ [(⟨(k_ : Int) % 4, ⟨((k_ : Int) % 2 : Int) == (0 : Int), ([(⟨#[97]⟩)] : List ByteArray).take (((k_ : Int) % 2).toNat), ([(⟨(k_ : Int) % 3, 1 + (((k_ : Int) / 3 : Int) % 2)⟩ : Handle)] : List Handle), ([k_] : List Int)⟩, ([(⟨(k_ : Int) % 3, 1 + (((k_ : Int) / 3 : Int) % 2)⟩ : Handle), (⟨(k_ : Int) % 2, 1⟩ : Handle)] : List Handle).take ((((k_ : Int) / 2 : Int) % 3).toNat)⟩ : AAct)])]) (Facts.all ⟨M.shr' 0 rfl, trivial⟩)
      exact ⟨_, (by omega), i_ + 1, _, cs_ ++ [(Value.int .i64 ((k_ : Int) % 4)), (Value.bool (((k_ : Int) % 2 : Int) == (0 : Int))), (Value.slice (some ⟨b42, 0, none⟩) (((k_ : Int) % 2).toNat) 1), (Value.slice (some ⟨b44, 0, none⟩) 1 1), (Value.slice (some ⟨b43, 0, none⟩) 1 1), (Value.slice (some ⟨b45, 0, none⟩) ((((k_ : Int) / 2 : Int) % 3).toNat) 2)], xs_ ++ [(⟨(k_ : Int) % 4, ⟨((k_ : Int) % 2 : Int) == (0 : Int), ([(⟨#[97]⟩)] : List ByteArray).take (((k_ : Int) % 2).toNat), ([(⟨(k_ : Int) % 3, 1 + (((k_ : Int) / 3 : Int) % 2)⟩ : Handle)] : List Handle), ([k_] : List Int)⟩, ([(⟨(k_ : Int) % 3, 1 + (((k_ : Int) / 3 : Int) % 2)⟩ : Handle), (⟨(k_ : Int) % 2, 1⟩ : Handle)] : List Handle).take ((((k_ : Int) / 2 : Int) % 3).toNat)⟩ : AAct)], _, ts_ ++ ([(((k_ : Int) % 5 : Int) - 2)] : List Int), _, ⟨(by omega), (by rw [List.length_append, List.length_singleton]; omega), (by rw [List.length_append, List.length_singleton]; omega), (by omega), (by omega), rfl⟩, ⟨rfl, rfl, rfl, rfl, rfl, rfl, rfl, rfl, trivial⟩, M⟩
    ·
      have h14p := of_decide_eq_false h14
      refine W.exit ?_
      refine thn_exit ?_
      refine thn_exit ?_
      refine inBlk_hit ?_
      refine W.seq' ?_
      obtain ⟨cap57, hb56⟩ := SlAt.base (own_slAt (M.chunk 0 rfl).inv) (by omega)
      obtain ⟨p58, hp58⟩ := elem_of_lt (xs := xs_) (i := 0) (by omega)
      obtain ⟨kv59, dv60, vv61, hv62, hc63, M⟩ := act_open_own M 0 rfl hp58
      have sl64 : IsSl kv59 := SlAt.isSl (Mem.rep M 0 rfl)
      have sl65 : IsSl dv60 := SlAt.isSl (Mem.rep M 1 rfl)
      have sl66 : IsSl vv61 := SlAt.isSl (Mem.rep M 2 rfl)
      have sl67 : IsSl hv62 := SlAt.isSl (Mem.rep M 3 rfl)
      obtain ⟨p68, hp68⟩ := elem_of_lt (xs := xs_) (i := ((↑n_ : Int) % 5).toNat) (by omega)
      obtain ⟨kv69, dv70, vv71, hv72, hc73, M⟩ := act_open_own M 4 rfl hp68
      have sl74 : IsSl kv69 := SlAt.isSl (Mem.rep M 0 rfl)
      have sl75 : IsSl dv70 := SlAt.isSl (Mem.rep M 1 rfl)
      have sl76 : IsSl vv71 := SlAt.isSl (Mem.rep M 2 rfl)
      have sl77 : IsSl hv72 := SlAt.isSl (Mem.rep M 3 rfl)
      refine W.drawn M [0, 1, 2, 3, 4, 5, 6, 7, 8, 9, 10, 11, 12, 13, 14, 15, 16, 17, 18, 19, 20, 21, 22, 23, 24, 25, 26, 27, 28] [1, 5, 26] [] [own 51 6 lv_ xs_.length cs_, own 3 1 tv_ ts_.length (ts_.flatMap intE)] [SlAt 1 kv69 p68.node.keys.length (p68.node.keys.flatMap strE), SlAt 2 dv70 p68.node.kids.length (p68.node.kids.flatMap handleE), SlAt 1 vv71 p68.node.vals.length (p68.node.vals.flatMap intE), SlAt 2 hv72 p68.hs.length (p68.hs.flatMap handleE), SlAt 1 kv59 p58.node.keys.length (p58.node.keys.flatMap strE), SlAt 2 dv60 p58.node.kids.length (p58.node.kids.flatMap handleE), SlAt 1 vv61 p58.node.vals.length (p58.node.vals.flatMap intE), SlAt 2 hv62 p58.hs.length (p58.hs.flatMap handleE), RepL ActT cs_ xs_] (List.Sublist.cons_cons _ (List.Sublist.cons_cons _ List.Sublist.slnil)) (fun _ h => h) Try.mixed (by kernel_rfl) ?_
      refine TW.pure (v := lv_) rfl (by decide) (by decide) rfl (fun w => (Step.move rfl)) ?_
      refine TW.callX (ι := Unit) (fun jx v_ => v_ = (Value.bool true)) (fun jx => [own 51 6 lv_ xs_.length cs_, own 3 1 tv_ ts_.length (ts_.flatMap intE)]) (fun jx => [SlAt 1 kv69 p68.node.keys.length (p68.node.keys.flatMap strE), SlAt 2 dv70 p68.node.kids.length (p68.node.kids.flatMap handleE), SlAt 1 vv71 p68.node.vals.length (p68.node.vals.flatMap intE), SlAt 2 hv72 p68.hs.length (p68.hs.flatMap handleE), SlAt 1 kv59 p58.node.keys.length (p58.node.keys.flatMap strE), SlAt 2 dv60 p58.node.kids.length (p58.node.kids.flatMap handleE), SlAt 1 vv61 p58.node.vals.length (p58.node.vals.flatMap intE), SlAt 2 hv62 p58.hs.length (p58.hs.flatMap handleE), RepL ActT cs_ xs_]) rfl (by decide) rfl (fun jx => (List.Sublist.cons_cons _ (List.Sublist.cons_cons _ List.Sublist.slnil))) (fun jx r h => h) (fun A w M => Rets.mono (law_plays lv_ xs_ (M.enterW0 ⟨(((M.wideC0 1 rfl).and (M.wideR0 8 rfl)).imp fun _ ⟨h1_, h2_⟩ => ⟨_, own_slAt h1_, h2_⟩), trivial⟩)) (fun v_ w_ ⟨e_, m⟩ => ⟨(), e_, (M.leaveW0 m).sel (L' := [fl A, own 51 6 lv_ xs_.length cs_, own 3 1 tv_ ts_.length (ts_.flatMap intE)]) [0, 1, 2] rfl (by decide), fun b hb => M.keptW0 m (fl A) (List.mem_cons_self ..) b hb⟩)) (fun w => CallsF.func Try.en4 rfl) (fun jx v hp hin => ?_)
      replace hp := hp.symm; subst hp
      clear hin
      change TW _ _ _ _ _ _ _ _ (MemA _ _ _ [own 51 6 lv_ xs_.length cs_, own 3 1 tv_ ts_.length (ts_.flatMap intE)] [SlAt 1 kv69 p68.node.keys.length (p68.node.keys.flatMap strE), SlAt 2 dv70 p68.node.kids.length (p68.node.kids.flatMap handleE), SlAt 1 vv71 p68.node.vals.length (p68.node.vals.flatMap intE), SlAt 2 hv72 p68.hs.length (p68.hs.flatMap handleE), SlAt 1 kv59 p58.node.keys.length (p58.node.keys.flatMap strE), SlAt 2 dv60 p58.node.kids.length (p58.node.kids.flatMap handleE), SlAt 1 vv61 p58.node.vals.length (p58.node.vals.flatMap intE), SlAt 2 hv62 p58.hs.length (p58.hs.flatMap handleE), RepL ActT cs_ xs_])
      refine TW.pure (v := (Value.bool false)) rfl (by decide) (by decide) rfl (fun w => (Step.pure (by kernel_rfl))) ?_
      refine TW.pure (v := (Value.bool false)) rfl (by decide) (by decide) rfl (fun w => (Step.move rfl)) ?_
      refine TW.pure (v := tv_) rfl (by decide) (by decide) rfl (fun w => (Step.move rfl)) ?_
      refine TW.callX (ι := Unit) (fun jx v_ => v_ = (Value.bool true)) (fun jx => [own 51 6 lv_ xs_.length cs_, own 3 1 tv_ ts_.length (ts_.flatMap intE)]) (fun jx => [SlAt 1 kv69 p68.node.keys.length (p68.node.keys.flatMap strE), SlAt 2 dv70 p68.node.kids.length (p68.node.kids.flatMap handleE), SlAt 1 vv71 p68.node.vals.length (p68.node.vals.flatMap intE), SlAt 2 hv72 p68.hs.length (p68.hs.flatMap handleE), SlAt 1 kv59 p58.node.keys.length (p58.node.keys.flatMap strE), SlAt 2 dv60 p58.node.kids.length (p58.node.kids.flatMap handleE), SlAt 1 vv61 p58.node.vals.length (p58.node.vals.flatMap intE), SlAt 2 hv62 p58.hs.length (p58.hs.flatMap handleE), RepL ActT cs_ xs_]) rfl (by decide) rfl (fun jx => (List.Sublist.cons_cons _ (List.Sublist.cons_cons _ List.Sublist.slnil))) (fun jx r h => h) (fun A w M => Rets.mono (law_turns tv_ ts_ (M.enterW0 ⟨((M.wideC0 2 rfl).imp fun _ h => own_slAt h), trivial⟩)) (fun v_ w_ ⟨e_, m⟩ => ⟨(), e_, (M.leaveW0 m).sel (L' := [fl A, own 51 6 lv_ xs_.length cs_, own 3 1 tv_ ts_.length (ts_.flatMap intE)]) [0, 1, 2] rfl (by decide), fun b hb => M.keptW0 m (fl A) (List.mem_cons_self ..) b hb⟩)) (fun w => CallsF.func Try.en3 rfl) (fun jx v hp hin => ?_)
      replace hp := hp.symm; subst hp
      clear hin
      change TW _ _ _ _ _ _ _ _ (MemA _ _ _ [own 51 6 lv_ xs_.length cs_, own 3 1 tv_ ts_.length (ts_.flatMap intE)] [SlAt 1 kv69 p68.node.keys.length (p68.node.keys.flatMap strE), SlAt 2 dv70 p68.node.kids.length (p68.node.kids.flatMap handleE), SlAt 1 vv71 p68.node.vals.length (p68.node.vals.flatMap intE), SlAt 2 hv72 p68.hs.length (p68.hs.flatMap handleE), SlAt 1 kv59 p58.node.keys.length (p58.node.keys.flatMap strE), SlAt 2 dv60 p58.node.kids.length (p58.node.kids.flatMap handleE), SlAt 1 vv61 p58.node.vals.length (p58.node.vals.flatMap intE), SlAt 2 hv62 p58.hs.length (p58.hs.flatMap handleE), RepL ActT cs_ xs_])
      refine TW.pure (v := (Value.bool false)) rfl (by decide) (by decide) rfl (fun w => (Step.pure (by kernel_rfl))) ?_
      refine TW.pure (v := (Value.bool false)) rfl (by decide) (by decide) rfl (fun w => (Step.pick (t := false) rfl rfl)) ?_
      refine TW.pure (v := (Value.bool false)) rfl (by decide) (by decide) rfl (fun w => (Step.move rfl)) ?_
      refine TW.pure (v := lv_) rfl (by decide) (by decide) rfl (fun w => (Step.move rfl)) ?_
      refine TW.pure (v := (Value.int .i64 ↑n_)) rfl (by decide) (by decide) rfl (fun w => (Step.move rfl)) ?_
      refine TW.pure (v := (Value.int .i64 ((↑n_ : Int) % 4))) rfl (by decide) (by decide) rfl (fun w => (Step.remN rfl rfl (by omega) (by decide))) ?_
      refine TW.pure (v := (Value.int .i64 (((↑n_ : Int) % 4 : Int) - 1))) rfl (by decide) (by decide) rfl (fun w => (Step.sub rfl rfl (wrap_i64 (by omega)))) ?_
      refine TW.pure (v := (Value.int .i64 ↑n_)) rfl (by decide) (by decide) rfl (fun w => (Step.move rfl)) ?_
      refine TW.pure (v := (Value.int .i64 ((↑n_ : Int) % 3))) rfl (by decide) (by decide) rfl (fun w => (Step.remN rfl rfl (by omega) (by decide))) ?_
      refine TW.pure (v := (Value.agg #[(Value.int .i64 (((↑n_ : Int) % 4 : Int) - 1)), (Value.int .i64 ((↑n_ : Int) % 3))])) rfl (by decide) (by decide) rfl (fun w => (Step.pure (by kernel_rfl))) ?_
      refine TW.pure (v := lv_) rfl (by decide) (by decide) rfl (fun w => (Step.move rfl)) ?_
      refine TW.pure (v := (Value.pointer (some ⟨(sBlk lv_), sOff lv_ + 0 * 6, none⟩))) rfl (by decide) (by decide) rfl (fun w => (Step.indexAddr (i := 0) (Try.un43).run Try.el51.sized rfl rfl rfl hb56 (by omega))) ?_
      refine TW.pure (v := (Value.pointer (some ⟨(sBlk lv_), sOff lv_ + 0 * 6 + 1, none⟩))) rfl (by decide) (by decide) rfl (fun w => (Step.pure (by kernel_rfl))) ?_
      refine TW.read (v := (Value.agg #[(Value.bool p58.node.leaf), kv59, dv60, vv61])) rfl (by decide) (by decide) rfl (fun A w M => (Step.loadEN (k := 1) (cs' := [(Value.bool p58.node.leaf), kv59, dv60, vv61]) Try.ag36 (ec_row (own_slAt (M.chunk 1 rfl).inv) hc63 (by omega)) (by decide) rfl rfl rfl)) ?_
      refine TW.pure (v := lv_) rfl (by decide) (by decide) rfl (fun w => (Step.move rfl)) ?_
      refine TW.pure (v := (Value.int .i64 ↑n_)) rfl (by decide) (by decide) rfl (fun w => (Step.move rfl)) ?_
      refine TW.pure (v := (Value.int .i64 ((↑n_ : Int) % 5))) rfl (by decide) (by decide) rfl (fun w => (Step.remN rfl rfl (by omega) (by decide))) ?_
      refine TW.pure (v := (Value.pointer (some ⟨(sBlk lv_), sOff lv_ + (((↑n_ : Int) % 5).toNat) * 6, none⟩))) rfl (by decide) (by decide) rfl (fun w => (Step.indexAddr (i := ((↑n_ : Int) % 5).toNat) (Try.un43).run Try.el51.sized rfl rfl (by omega) hb56 (by omega))) ?_
      refine TW.pure (v := (Value.pointer (some ⟨(sBlk lv_), sOff lv_ + (((↑n_ : Int) % 5).toNat) * 6 + 1, none⟩))) rfl (by decide) (by decide) rfl (fun w => (Step.pure (by kernel_rfl))) ?_
      refine TW.read (v := (Value.agg #[(Value.bool p68.node.leaf), kv69, dv70, vv71])) rfl (by decide) (by decide) rfl (fun A w M => (Step.loadEN (k := 1) (cs' := [(Value.bool p68.node.leaf), kv69, dv70, vv71]) Try.ag36 (ec_row (own_slAt (M.chunk 1 rfl).inv) hc73 (by omega)) (by decide) rfl rfl rfl)) ?_
      refine TW.callX (ι := Unit) (fun jx v_ => v_ = (Value.bool true)) (fun jx => [own 51 6 lv_ xs_.length cs_, own 3 1 tv_ ts_.length (ts_.flatMap intE)]) (fun jx => [SlAt 1 kv69 p68.node.keys.length (p68.node.keys.flatMap strE), SlAt 2 dv70 p68.node.kids.length (p68.node.kids.flatMap handleE), SlAt 1 vv71 p68.node.vals.length (p68.node.vals.flatMap intE), SlAt 2 hv72 p68.hs.length (p68.hs.flatMap handleE), SlAt 1 kv59 p58.node.keys.length (p58.node.keys.flatMap strE), SlAt 2 dv60 p58.node.kids.length (p58.node.kids.flatMap handleE), SlAt 1 vv61 p58.node.vals.length (p58.node.vals.flatMap intE), SlAt 2 hv62 p58.hs.length (p58.hs.flatMap handleE), RepL ActT cs_ xs_]) rfl (by decide) rfl (fun jx => (List.Sublist.cons_cons _ (List.Sublist.cons_cons _ List.Sublist.slnil))) (fun jx r h => h) (fun A w M => Rets.mono (law_tells lv_ xs_ (⟨((↑n_ : Int) % 4 : Int) - 1, (↑n_ : Int) % 3⟩ : Handle) kv59 dv60 vv61 p58.node kv69 dv70 vv71 p68.node (M.enterW0 ⟨(((M.wideC0 1 rfl).and (M.wideR0 8 rfl)).imp fun _ ⟨h1_, h2_⟩ => ⟨_, own_slAt h1_, h2_⟩), (M.wideR0 4 rfl), (M.wideR0 5 rfl), (M.wideR0 6 rfl), (M.wideR0 0 rfl), (M.wideR0 1 rfl), (M.wideR0 2 rfl), trivial⟩)) (fun v_ w_ ⟨e_, m⟩ => ⟨(), e_, (M.leaveW0 m).sel (L' := [fl A, own 51 6 lv_ xs_.length cs_, own 3 1 tv_ ts_.length (ts_.flatMap intE)]) [0, 1, 2] rfl (by decide), fun b hb => M.keptW0 m (fl A) (List.mem_cons_self ..) b hb⟩)) (fun w => CallsF.func Try.en6 rfl) (fun jx v hp hin => ?_)
      replace hp := hp.symm; subst hp
      clear hin
      change TW _ _ _ _ _ _ _ _ (MemA _ _ _ [own 51 6 lv_ xs_.length cs_, own 3 1 tv_ ts_.length (ts_.flatMap intE)] [SlAt 1 kv69 p68.node.keys.length (p68.node.keys.flatMap strE), SlAt 2 dv70 p68.node.kids.length (p68.node.kids.flatMap handleE), SlAt 1 vv71 p68.node.vals.length (p68.node.vals.flatMap intE), SlAt 2 hv72 p68.hs.length (p68.hs.flatMap handleE), SlAt 1 kv59 p58.node.keys.length (p58.node.keys.flatMap strE), SlAt 2 dv60 p58.node.kids.length (p58.node.kids.flatMap handleE), SlAt 1 vv61 p58.node.vals.length (p58.node.vals.flatMap intE), SlAt 2 hv62 p58.hs.length (p58.hs.flatMap handleE), RepL ActT cs_ xs_])
      refine TW.pure (v := (Value.bool false)) rfl (by decide) (by decide) rfl (fun w => (Step.pure (by kernel_rfl))) ?_
      refine TW.pure (v := (Value.bool false)) rfl (by decide) (by decide) rfl (fun w => (Step.pick (t := false) rfl rfl)) ?_
      refine TW.done (fun w78 M => ?_)
      refine W.cond (t := false) rfl (fun h => by cases h) (fun _ => ?_)
      refine W.skip ?_
      refine W.region rfl ?_
      refine WL.step (v := (Value.int .i64 ↑n_)) rfl (Step.move rfl) ?_
      refine WL.step (v := (Value.int .i64 (↑n_ + 3))) rfl (Step.add rfl rfl (wrap_i64 (by omega))) ?_
      refine WL.step (v := (Value.int .i64 (↑n_ + 3))) rfl (Step.assign rfl) ?_
      refine WL.nil ?_
      replace M := M.sel (L' := []) [] rfl (by decide)
      replace M := M.sub (List.Sublist.refl _) (R' := []) (fun r h => (List.mem_cons_of_mem _ (List.mem_cons_of_mem _ (List.mem_cons_of_mem _ (List.mem_cons_of_mem _ (List.mem_cons_of_mem _ (List.mem_cons_of_mem _ (List.mem_cons_of_mem _ (List.mem_cons_of_mem _ (List.mem_cons_of_mem _ h))))))))))
      exact ⟨_, (by omega), n_ + 3, ⟨(by omega), rfl⟩, ⟨rfl, trivial⟩, M⟩
  ·
    have h4p := of_decide_eq_false h4
    refine W.exit ?_
    refine thn_exit ?_
    refine thn_exit ?_
    refine inBlk_hit ?_
    refine W.seq' ?_
    refine W.region rfl ?_
    refine WL.step (v := (Value.agg #[(Value.int .i64 1), (Value.int .i64 1)])) rfl (Step.pure (by kernel_rfl)) ?_
    refine WL.step (v := (Value.agg #[(Value.bool false), (Value.slice none 0 0), (Value.slice none 0 0), (Value.slice none 0 0)])) rfl (Step.pure (by kernel_rfl)) ?_
    refine WL.callX rfl (law_none (⟨1, 1⟩ : Handle) (Value.slice none 0 0) (Value.slice none 0 0) (Value.slice none 0 0) (⟨false, ([] : List ByteArray), ([] : List Handle), ([] : List Int)⟩ : Nd) (M.enterW0 ⟨(Sh.pure fun w => SlAt.nil 1 w), (Sh.pure fun w => SlAt.nil 2 w), (Sh.pure fun w => SlAt.nil 1 w), trivial⟩)) (CallsF.func Try.en5 rfl) ?_
    rintro _ w79 ⟨rfl, m⟩
    replace M := M.leaveW0 m
    clear m
    replace M : Mem _ _ _ [] [] _ := M
    refine WL.step (v := (Value.bool true)) rfl (Step.move rfl) ?_
    refine WL.callX rfl (law_plays (Value.slice none 0 0) ([] : List AAct) (M.enterW0 ⟨(Sh.pure fun w => RepS.nil ActT w), trivial⟩)) (CallsF.func Try.en4 rfl) ?_
    rintro _ w80 ⟨rfl, m⟩
    replace M := M.leaveW0 m
    clear m
    replace M : Mem _ _ _ [] [] _ := M
    refine WL.step (v := (Value.bool true)) rfl (Step.pick (t := true) rfl rfl) ?_
    refine WL.step (v := (Value.bool true)) rfl (Step.move rfl) ?_
    refine WL.callX rfl (law_works  (M.enterW0 trivial)) (CallsF.func Try.en8 rfl) ?_
    rintro _ w81 ⟨rfl, m⟩
    replace M := M.leaveW0 m
    clear m
    replace M : Mem _ _ _ [] [] _ := M
    refine WL.step (v := (Value.bool true)) rfl (Step.pick (t := true) rfl rfl) ?_
    refine WL.step (v := (Value.bool true)) rfl (Step.assign rfl) ?_
    refine WL.nil ?_
    refine W.ret ?_
    refine ⟨.inl rfl, (Value.bool true), ?_, ?_⟩
    · exact (Res.r1 (show RV _ _ _ (.tmp 0) (Value.bool true) from by exact rfl))
    refine ⟨?_, M.close [] rfl (by decide) trivial⟩
    rfl
end Go.Proofs
