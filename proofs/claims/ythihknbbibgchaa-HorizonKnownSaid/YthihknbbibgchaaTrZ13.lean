/- Walks. -/
import Derived.Test.YthihknbbibgchaaTrZ12
set_option maxRecDepth 100000
set_option linter.all false
namespace Go.Proofs
open Go Tp
theorem Try.un3 : Und Try.prog 3 (.int .i64) := by unfold Und; kernel_rfl
theorem Try.un5 : Und Try.prog 5 (.int .u8) := by unfold Und; kernel_rfl
theorem Try.en3 : Enters Try.prog 3 := fun _ _ => by kernel_rfl
theorem Try.en4 : Enters Try.prog 4 := fun _ _ => by kernel_rfl
theorem Try.en5 : Enters Try.prog 5 := fun _ _ => by kernel_rfl

theorem law23_known {G : Nat → Prop} {w : World}    (M : Mem G (fun _ => False) w [] [] w) : Rets Try.prog 6 #[] w fun r w' => r = (Value.bool true) ∧ Mem G (fun _ => False) w [] [] w' := by
  refine Rets.enter 82 _ Try.func6 rfl Try.ntmps6 Try.results6 (by simp) ?_
  refine W.seq' ?_
  refine W.region rfl ?_
  refine WL.step (v := (Value.bool false)) rfl (Step.assign rfl) ?_
  refine WL.nil ?_
  refine W.seq' ?_
  refine W.seq' ?_
  refine W.region rfl ?_
  refine WL.step (v := (Value.int .i64 0)) rfl (Step.assign rfl) ?_
  refine WL.nil ?_
  refine W.block ?_
  refine W.loop (fun kk ρ w' => ∃ (n_ : Nat), ((n_ ≤ 1296) ∧ kk = 1296 - n_) ∧ ρ.has [(1, (Value.int .i64 ↑n_))] ∧ Mem G (fun _ => False) w [] []  w') _ ⟨0, ⟨(by decide), rfl⟩, ⟨rfl, rfl, rfl⟩, M⟩ ?_
  rintro _ ρ2 w1 ⟨n_, ⟨hi3, rfl⟩, hρ, M⟩
  obtain ⟨ρ2, rfl⟩ := hρ.know
  clear hρ
  refine W.seq' ?_
  refine W.seq' ?_
  refine W.region rfl ?_
  refine WL.step (v := (Value.int .i64 ↑n_)) rfl (Step.move rfl) ?_
  refine WL.step (v := (Value.bool (decide ((↑n_ : Int) < (1296 : Int))))) rfl (Step.pure (by kernel_rfl)) ?_
  refine WL.nil ?_
  refine W.cond (t := decide ((↑n_ : Int) < (1296 : Int))) rfl (fun h4 => ?_) (fun h4 => ?_)
  ·
    have h4p := of_decide_eq_true h4
    refine W.skip ?_
    refine W.seq' ?_
    refine W.block ?_
    refine W.seq' ?_
    refine W.region rfl ?_
    refine WL.step (v := (Value.slice none 0 0)) rfl (Step.assign rfl) ?_
    refine WL.nil ?_
    refine W.seq' ?_
    refine W.region rfl ?_
    refine WL.step (v := (Value.int .i64 ↑n_)) rfl (Step.move rfl) ?_
    refine WL.step (v := (Value.int .i64 ↑n_)) rfl (Step.assign rfl) ?_
    refine WL.nil ?_
    refine W.seq' ?_
    refine W.seq' ?_
    refine W.region rfl ?_
    refine WL.step (v := (Value.int .i64 0)) rfl (Step.assign rfl) ?_
    refine WL.nil ?_
    refine W.block ?_
    replace M := M.ownNil 37 6
    replace M : Mem _ _ _ [own 37 6 (Value.slice none 0 0) (([] : List HAct).length) ([] : List Value)] [] _ := M
    replace M := M.add_pure (r' := RepL HActT [] []) (fun w => repL_nil)
    replace M : Mem _ _ _ [own 37 6 (Value.slice none 0 0) (([] : List HAct).length) ([] : List Value)] [RepL HActT ([]) ([])] _ := M
    refine W.loop (fun kk ρ w' => ∃ (i_ : Nat) (lv_ : Value) (cs_ : List Value) (xs_ : List HAct) (k_ : Int), ((i_ ≤ 5) ∧ (xs_.length = i_) ∧ (∀ a, a ∈ xs_ → 0 ≤ a.now ∧ 0 ≤ a.p.epoch) ∧ (0 ≤ k_) ∧ (k_ ≤ 2000) ∧ kk = 5 - i_) ∧ ρ.has [(1, (Value.int .i64 ↑n_)), (2, lv_), (3, (Value.int .i64 k_)), (4, (Value.int .i64 ↑i_)), (6, (Value.int .i64 ↑n_)), (7, (Value.bool (decide ((↑n_ : Int) < (1296 : Int))))), (10, (Value.int .i64 ↑n_))] ∧ Mem G (fun _ => False) w [own 37 6 lv_ xs_.length cs_] [RepL HActT cs_ xs_]  w') _ ⟨0, _, [], [], _, ⟨(by decide), rfl, (fun a h => by cases h), (by omega), (by omega), rfl⟩, ⟨rfl, rfl, rfl, rfl, rfl, rfl, rfl, rfl, rfl⟩, M⟩ ?_
    rintro _ ρ6 w5 ⟨i_, lv_, cs_, xs_, k_, ⟨hi7, hi8, hi9, hi10, hi11, rfl⟩, hρ, M⟩
    obtain ⟨ρ6, rfl⟩ := hρ.know
    clear hρ
    have hxl_ : xs_.length = i_ := hi8
    have hxin_ : ∀ a, a ∈ xs_ → 0 ≤ a.now ∧ 0 ≤ a.p.epoch := hi9
    have sl12 : IsSl lv_ := SlAt.isSl (own_slAt (M.chunk 0 rfl).inv)
    refine W.seq' ?_
    refine W.seq' ?_
    refine W.region rfl ?_
    refine WL.step (v := (Value.int .i64 ↑i_)) rfl (Step.move rfl) ?_
    refine WL.step (v := (Value.bool (decide ((↑i_ : Int) < (5 : Int))))) rfl (Step.pure (by kernel_rfl)) ?_
    refine WL.nil ?_
    refine W.cond (t := decide ((↑i_ : Int) < (5 : Int))) rfl (fun h13 => ?_) (fun h13 => ?_)
    ·
      have h13p := of_decide_eq_true h13
      refine W.skip ?_
      refine W.seq' ?_
      refine W.block ?_
      refine W.seq' ?_
      refine W.region rfl ?_
      refine WL.step (v := (Value.int .i64 k_)) rfl (Step.move rfl) ?_
      refine WL.step (v := (Value.int .i64 ((k_ : Int) % 2))) rfl (Step.remN rfl rfl (by omega) (by decide)) ?_
      refine WL.step (v := (Value.int .u8 (IntKind.u8.wrap ((k_ : Int) % 2 : Int)))) rfl (Step.conv Try.un3 Try.un5 rfl rfl) ?_
      refine WL.step (v := (Value.int .i64 k_)) rfl (Step.move rfl) ?_
      refine WL.step (v := (Value.int .i64 ((k_ : Int) / 2))) rfl (Step.quoN rfl rfl (by omega) (by decide) (wrap_i64 (by omega))) ?_
      refine WL.step (v := (Value.int .i64 (((k_ : Int) / 2 : Int) % 2))) rfl (Step.remN rfl rfl (by omega) (by decide)) ?_
      refine WL.step (v := (Value.int .u64 (((k_ : Int) / 2 : Int) % 2))) rfl (Step.conv Try.un3 Try.un23 rfl (wrap_u64 (by omega))) ?_
      refine WL.step (v := (Value.int .i64 k_)) rfl (Step.move rfl) ?_
      refine WL.step (v := (Value.int .i64 ((k_ : Int) % 5))) rfl (Step.remN rfl rfl (by omega) (by decide)) ?_
      refine WL.step (v := (Value.int .u64 ((k_ : Int) % 5))) rfl (Step.conv Try.un3 Try.un23 rfl (wrap_u64 (by omega))) ?_
      refine WL.step (v := (Value.agg #[(Value.int .u8 (IntKind.u8.wrap ((k_ : Int) % 2 : Int))), (Value.int .u64 (((k_ : Int) / 2 : Int) % 2)), (Value.int .u64 ((k_ : Int) % 5))])) rfl (Step.pure (by kernel_rfl)) ?_
      refine WL.alloc (c := #[(Value.int .u8 0), (Value.int .u64 0), (Value.int .u64 0)]) M rfl Try.el35.zero rfl (fun b14 w15 hb14 M => ?_)
      refine WL.store (v := (Value.agg #[(Value.int .u8 (IntKind.u8.wrap ((k_ : Int) % 2 : Int))), (Value.int .u64 (((k_ : Int) / 2 : Int) % 2)), (Value.int .u64 ((k_ : Int) % 5))])) (cs := [(Value.int .u8 (IntKind.u8.wrap ((k_ : Int) % 2 : Int))), (Value.int .u64 (((k_ : Int) / 2 : Int) % 2)), (Value.int .u64 ((k_ : Int) % 5))]) (c' := #[(Value.int .u8 (IntKind.u8.wrap ((k_ : Int) % 2 : Int))), (Value.int .u64 (((k_ : Int) / 2 : Int) % 2)), (Value.int .u64 ((k_ : Int) % 5))]) M 0 rfl rfl Try.el35.sized rfl rfl rfl rfl (Nat.le_of_ble_eq_true rfl) (cel_cons rfl (cel_cons rfl (cel_cons rfl cel_nil))) rfl rfl (fun w16 M => ?_)
      refine WL.nil ?_
      refine W.seq' ?_
      refine W.drawn M [0, 1, 2, 3, 4, 5, 6, 7, 9, 10, 11, 12, 14, 15, 16, 17, 8, 13, 18, 19, 20, 21] [20] [8, 19] [blk b14 (.cells #[(Value.int .u8 (IntKind.u8.wrap ((k_ : Int) % 2 : Int))), (Value.int .u64 (((k_ : Int) / 2 : Int) % 2)), (Value.int .u64 ((k_ : Int) % 5))] 35)] [RepL HActT cs_ xs_] (List.Sublist.cons_cons _ (List.Sublist.cons _ List.Sublist.slnil)) (fun _ h => h) Try.mixed (by kernel_rfl) ?_
      refine TW.pure (v := lv_) rfl (by decide) (by decide) rfl (fun w => (Step.move rfl)) ?_
      refine TW.pure (v := (Value.int .i64 k_)) rfl (by decide) (by decide) rfl (fun w => (Step.move rfl)) ?_
      refine TW.pure (v := (Value.int .i64 ((k_ : Int) % 6))) rfl (by decide) (by decide) rfl (fun w => (Step.remN rfl rfl (by omega) (by decide))) ?_
      refine TW.read (v := (Value.agg #[(Value.int .u8 (IntKind.u8.wrap ((k_ : Int) % 2 : Int))), (Value.int .u64 (((k_ : Int) / 2 : Int) % 2)), (Value.int .u64 ((k_ : Int) % 5))])) rfl (by decide) (by decide) rfl (fun A w M => (Step.loadN Try.ag35 rfl (M.blk 1 rfl) (Nat.le_of_ble_eq_true rfl) rfl)) ?_
      refine TW.pure (v := (Value.int .i64 k_)) rfl (by decide) (by decide) rfl (fun w => (Step.move rfl)) ?_
      refine TW.pure (v := (Value.int .i64 ((k_ : Int) % 3))) rfl (by decide) (by decide) rfl (fun w => (Step.remN rfl rfl (by omega) (by decide))) ?_
      refine TW.pure (v := (Value.int .u64 ((k_ : Int) % 3))) rfl (by decide) (by decide) rfl (fun w => (Step.conv Try.un3 Try.un23 rfl (wrap_u64 (by omega)))) ?_
      refine TW.pure (v := (Value.agg #[(Value.int .u8 1), (Value.int .u64 ((k_ : Int) % 3)), (Value.int .u64 3)])) rfl (by decide) (by decide) rfl (fun w => (Step.pure (by kernel_rfl))) ?_
      refine TW.pure (v := (Value.int .i64 k_)) rfl (by decide) (by decide) rfl (fun w => (Step.move rfl)) ?_
      refine TW.pure (v := (Value.int .i64 ((k_ : Int) % 7))) rfl (by decide) (by decide) rfl (fun w => (Step.remN rfl rfl (by omega) (by decide))) ?_
      refine TW.pure (v := (Value.int .i64 (((k_ : Int) % 7 : Int) / 5))) rfl (by decide) (by decide) rfl (fun w => (Step.quoN rfl rfl (by omega) (by decide) (wrap_i64 (by omega)))) ?_
      refine TW.pure (v := (Value.int .i64 (1 + (((k_ : Int) % 7 : Int) / 5)))) rfl (by decide) (by decide) rfl (fun w => (Step.add rfl rfl (wrap_i64 (by omega)))) ?_
      refine TW.read (v := (Value.agg #[(Value.int .u8 (IntKind.u8.wrap ((k_ : Int) % 2 : Int))), (Value.int .u64 (((k_ : Int) / 2 : Int) % 2)), (Value.int .u64 ((k_ : Int) % 5))])) rfl (by decide) (by decide) rfl (fun A w M => (Step.loadN Try.ag35 rfl (M.blk 1 rfl) (Nat.le_of_ble_eq_true rfl) rfl)) ?_
      refine TW.pure (v := (Value.int .i64 k_)) rfl (by decide) (by decide) rfl (fun w => (Step.move rfl)) ?_
      refine TW.pure (v := (Value.int .i64 ((k_ : Int) % 4))) rfl (by decide) (by decide) rfl (fun w => (Step.remN rfl rfl (by omega) (by decide))) ?_
      refine TW.pure (v := (Value.int .u64 ((k_ : Int) % 4))) rfl (by decide) (by decide) rfl (fun w => (Step.conv Try.un3 Try.un23 rfl (wrap_u64 (by omega)))) ?_
      refine TW.new (obj := .cells #[(Value.int .u8 (IntKind.u8.wrap ((k_ : Int) % 2 : Int))), (Value.int .u64 (((k_ : Int) / 2 : Int) % 2)), (Value.int .u64 ((k_ : Int) % 5)), (Value.int .u8 1), (Value.int .u64 ((k_ : Int) % 3)), (Value.int .u64 3)] 35) (fun b => .slice (some ⟨b, 0, none⟩) 2 2) rfl (by decide) (by decide) rfl (fun w => Step.make (by kernel_rfl)) (fun b29 => ?_)
      refine TW.pure (v := (Value.slice (some ⟨b29, 0, none⟩) ((1 + (((k_ : Int) % 7 : Int) / 5)).toNat) 2)) rfl (by decide) (by decide) rfl (fun w => (Step.sliceH (h := (1 + (((k_ : Int) % 7 : Int) / 5)).toNat) Try.un33 Try.el35.sized rfl rfl (by omega) rfl (by omega))) ?_
      refine TW.pure (v := (Value.agg #[(Value.int .i64 ((k_ : Int) % 6)), (Value.slice (some ⟨b29, 0, none⟩) ((1 + (((k_ : Int) % 7 : Int) / 5)).toNat) 2), (Value.int .u8 (IntKind.u8.wrap ((k_ : Int) % 2 : Int))), (Value.int .u64 (((k_ : Int) / 2 : Int) % 2)), (Value.int .u64 ((k_ : Int) % 5)), (Value.int .u64 ((k_ : Int) % 4))])) rfl (by decide) (by decide) rfl (fun w => (Step.pure (by kernel_rfl))) ?_
      refine TW.new (obj := .cells #[(Value.int .i64 ((k_ : Int) % 6)), (Value.slice (some ⟨b29, 0, none⟩) ((1 + (((k_ : Int) % 7 : Int) / 5)).toNat) 2), (Value.int .u8 (IntKind.u8.wrap ((k_ : Int) % 2 : Int))), (Value.int .u64 (((k_ : Int) / 2 : Int) % 2)), (Value.int .u64 ((k_ : Int) % 5)), (Value.int .u64 ((k_ : Int) % 4))] 37) (fun b => .slice (some ⟨b, 0, none⟩) 1 1) rfl (by decide) (by decide) rfl (fun w => Step.make (by kernel_rfl)) (fun b30 => ?_)
      refine TW.doesM (fun v_ => own 37 6 v_ (xs_.length + 1) (cs_ ++ ([(Value.int .i64 ((k_ : Int) % 6)), (Value.slice (some ⟨b29, 0, none⟩) ((1 + (((k_ : Int) % 7 : Int) / 5)).toNat) 2), (Value.int .u8 (IntKind.u8.wrap ((k_ : Int) % 2 : Int))), (Value.int .u64 (((k_ : Int) / 2 : Int) % 2)), (Value.int .u64 ((k_ : Int) % 5)), (Value.int .u64 ((k_ : Int) % 4))]))) 3 rfl rfl (by decide) rfl (fun v_ => (List.Sublist.cons _ (List.Sublist.cons _ (List.Sublist.cons_cons _ (List.Sublist.cons _ List.Sublist.slnil))))) (fun r h => h) (fun A w M => Does.mono (M.append (sv := (Value.slice (some ⟨b30, 0, none⟩) 1 1)) (news := [(Value.int .i64 ((k_ : Int) % 6)), (Value.slice (some ⟨b29, 0, none⟩) ((1 + (((k_ : Int) % 7 : Int) / 5)).toNat) 2), (Value.int .u8 (IntKind.u8.wrap ((k_ : Int) % 2 : Int))), (Value.int .u64 (((k_ : Int) / 2 : Int) % 2)), (Value.int .u64 ((k_ : Int) % 5)), (Value.int .u64 ((k_ : Int) % 4))]) 4 Try.un22 Try.el37 rfl (by decide) rfl rfl rfl (SlAt.of_blk (M.blk 1 rfl) rfl (by decide)) (Step.Cellish.one (cel_cons rfl (cel_cons rfl (cel_cons rfl (cel_cons rfl (cel_cons rfl (cel_cons rfl cel_nil))))))) (by have := hxl_; simp only [maxLen]; omega) (by have := hxl_; omega)) (fun _ _ ⟨_, h1_, h2_⟩ => ⟨h1_, h2_⟩)) (fun v31 hin => ?_)
      obtain ⟨_, _, hin⟩ := hin
      have sl33 : IsSl v31 := SlAt.isSl (own_slAt (Mem.chunk hin 4 rfl).inv)
      clear hin
      change TW _ _ _ _ _ _ _ _ (MemA _ _ _ [blk b30 (.cells #[(Value.int .i64 ((k_ : Int) % 6)), (Value.slice (some ⟨b29, 0, none⟩) ((1 + (((k_ : Int) % 7 : Int) / 5)).toNat) 2), (Value.int .u8 (IntKind.u8.wrap ((k_ : Int) % 2 : Int))), (Value.int .u64 (((k_ : Int) / 2 : Int) % 2)), (Value.int .u64 ((k_ : Int) % 5)), (Value.int .u64 ((k_ : Int) % 4))] 37), blk b29 (.cells #[(Value.int .u8 (IntKind.u8.wrap ((k_ : Int) % 2 : Int))), (Value.int .u64 (((k_ : Int) / 2 : Int) % 2)), (Value.int .u64 ((k_ : Int) % 5)), (Value.int .u8 1), (Value.int .u64 ((k_ : Int) % 3)), (Value.int .u64 3)] 35), blk b14 (.cells #[(Value.int .u8 (IntKind.u8.wrap ((k_ : Int) % 2 : Int))), (Value.int .u64 (((k_ : Int) / 2 : Int) % 2)), (Value.int .u64 ((k_ : Int) % 5))] 35), own 37 6 v31 (xs_.length + 1) (cs_ ++ ([(Value.int .i64 ((k_ : Int) % 6)), (Value.slice (some ⟨b29, 0, none⟩) ((1 + (((k_ : Int) % 7 : Int) / 5)).toNat) 2), (Value.int .u8 (IntKind.u8.wrap ((k_ : Int) % 2 : Int))), (Value.int .u64 (((k_ : Int) / 2 : Int) % 2)), (Value.int .u64 ((k_ : Int) % 5)), (Value.int .u64 ((k_ : Int) % 4))]))] [RepL HActT cs_ xs_])
      refine TW.pure (v := v31) rfl (by decide) (by decide) rfl (fun w => (Step.assign rfl)) ?_
      refine TW.done (fun w34 M => ?_)
      refine W.region rfl ?_
      refine WL.step (v := (Value.int .i64 k_)) rfl (Step.move rfl) ?_
      refine WL.step (v := (Value.int .i64 ((k_ : Int) / 3))) rfl (Step.quoN rfl rfl (by omega) (by decide) (wrap_i64 (by omega))) ?_
      refine WL.step (v := (Value.int .i64 ↑i_)) rfl (Step.move rfl) ?_
      refine WL.step (v := (Value.int .i64 (11 * ↑i_))) rfl (Step.mul rfl rfl (wrap_i64 (by omega))) ?_
      refine WL.step (v := (Value.int .i64 ((k_ : Int) / 3 + (11 * ↑i_)))) rfl (Step.add rfl rfl (wrap_i64 (by omega))) ?_
      refine WL.step (v := (Value.int .i64 ((k_ : Int) / 3 + (11 * ↑i_)))) rfl (Step.assign rfl) ?_
      refine WL.nil ?_
      refine W.region rfl ?_
      refine WL.step (v := (Value.int .i64 ↑i_)) rfl (Step.move rfl) ?_
      refine WL.step (v := (Value.int .i64 (↑i_ + 1))) rfl (Step.add rfl rfl (wrap_i64 (by omega))) ?_
      refine WL.step (v := (Value.int .i64 (↑i_ + 1))) rfl (Step.assign rfl) ?_
      refine WL.nil ?_
      replace M := M.shareBlk 1 (n := 2) (size := 3) rfl rfl (by decide)
      replace M : Mem _ _ _ [blk b30 (.cells #[(Value.int .i64 ((k_ : Int) % 6)), (Value.slice (some ⟨b29, 0, none⟩) ((1 + (((k_ : Int) % 7 : Int) / 5)).toNat) 2), (Value.int .u8 (IntKind.u8.wrap ((k_ : Int) % 2 : Int))), (Value.int .u64 (((k_ : Int) / 2 : Int) % 2)), (Value.int .u64 ((k_ : Int) % 5)), (Value.int .u64 ((k_ : Int) % 4))] 37), blk b14 (.cells #[(Value.int .u8 (IntKind.u8.wrap ((k_ : Int) % 2 : Int))), (Value.int .u64 (((k_ : Int) / 2 : Int) % 2)), (Value.int .u64 ((k_ : Int) % 5))] 35), own 37 6 v31 (xs_.length + 1) (cs_ ++ ([(Value.int .i64 ((k_ : Int) % 6)), (Value.slice (some ⟨b29, 0, none⟩) ((1 + (((k_ : Int) % 7 : Int) / 5)).toNat) 2), (Value.int .u8 (IntKind.u8.wrap ((k_ : Int) % 2 : Int))), (Value.int .u64 (((k_ : Int) / 2 : Int) % 2)), (Value.int .u64 ((k_ : Int) % 5)), (Value.int .u64 ((k_ : Int) % 4))]))] [SlAt 3 (Value.slice (some ⟨b29, 0, none⟩) 2 2) ([(⟨IntKind.u8.wrap ((k_ : Int) % 2 : Int), ((k_ : Int) / 2 : Int) % 2, (k_ : Int) % 5⟩ : PinH), (⟨1, (k_ : Int) % 3, 3⟩ : PinH)] : List PinH).length (([(⟨IntKind.u8.wrap ((k_ : Int) % 2 : Int), ((k_ : Int) / 2 : Int) % 2, (k_ : Int) % 5⟩ : PinH), (⟨1, (k_ : Int) % 3, 3⟩ : PinH)] : List PinH).flatMap pinE), RepL HActT cs_ xs_] _ := M
      replace M := M.add (r := RepL HActT (cs_ ++ [(Value.int .i64 ((k_ : Int) % 6)), (Value.slice (some ⟨b29, 0, none⟩) ((1 + (((k_ : Int) % 7 : Int) / 5)).toNat) 2), (Value.int .u8 (IntKind.u8.wrap ((k_ : Int) % 2 : Int))), (Value.int .u64 (((k_ : Int) / 2 : Int) % 2)), (Value.int .u64 ((k_ : Int) % 5)), (Value.int .u64 ((k_ : Int) % 4))]) (xs_ ++ [(⟨(k_ : Int) % 6, ([(⟨IntKind.u8.wrap ((k_ : Int) % 2 : Int), ((k_ : Int) / 2 : Int) % 2, (k_ : Int) % 5⟩ : PinH), (⟨1, (k_ : Int) % 3, 3⟩ : PinH)] : List PinH).take ((1 + (((k_ : Int) % 7 : Int) / 5)).toNat), (⟨IntKind.u8.wrap ((k_ : Int) % 2 : Int), ((k_ : Int) / 2 : Int) % 2, (k_ : Int) % 5⟩ : PinH), (k_ : Int) % 4⟩ : HAct)])) (((M.shr 1 rfl).and (M.shr 0 rfl)).imp fun w ⟨hr_, h0_⟩ => repL_snoc hr_ ⟨_, rfl, (slat_take (i := (1 + (((k_ : Int) % 7 : Int) / 5)).toNat) pinE_len h0_ (by (try simp only [List.length_cons, List.length_nil]); omega))⟩)
      replace M : Mem _ _ _ [blk b30 (.cells #[(Value.int .i64 ((k_ : Int) % 6)), (Value.slice (some ⟨b29, 0, none⟩) ((1 + (((k_ : Int) % 7 : Int) / 5)).toNat) 2), (Value.int .u8 (IntKind.u8.wrap ((k_ : Int) % 2 : Int))), (Value.int .u64 (((k_ : Int) / 2 : Int) % 2)), (Value.int .u64 ((k_ : Int) % 5)), (Value.int .u64 ((k_ : Int) % 4))] 37), blk b14 (.cells #[(Value.int .u8 (IntKind.u8.wrap ((k_ : Int) % 2 : Int))), (Value.int .u64 (((k_ : Int) / 2 : Int) % 2)), (Value.int .u64 ((k_ : Int) % 5))] 35), own 37 6 v31 (xs_.length + 1) (cs_ ++ ([(Value.int .i64 ((k_ : Int) % 6)), (Value.slice (some ⟨b29, 0, none⟩) ((1 + (((k_ : Int) % 7 : Int) / 5)).toNat) 2), (Value.int .u8 (IntKind.u8.wrap ((k_ : Int) % 2 : Int))), (Value.int .u64 (((k_ : Int) / 2 : Int) % 2)), (Value.int .u64 ((k_ : Int) % 5)), (Value.int .u64 ((k_ : Int) % 4))]))] [RepL HActT (cs_ ++ [(Value.int .i64 ((k_ : Int) % 6)), (Value.slice (some ⟨b29, 0, none⟩) ((1 + (((k_ : Int) % 7 : Int) / 5)).toNat) 2), (Value.int .u8 (IntKind.u8.wrap ((k_ : Int) % 2 : Int))), (Value.int .u64 (((k_ : Int) / 2 : Int) % 2)), (Value.int .u64 ((k_ : Int) % 5)), (Value.int .u64 ((k_ : Int) % 4))]) (xs_ ++ [(⟨(k_ : Int) % 6, ([(⟨IntKind.u8.wrap ((k_ : Int) % 2 : Int), ((k_ : Int) / 2 : Int) % 2, (k_ : Int) % 5⟩ : PinH), (⟨1, (k_ : Int) % 3, 3⟩ : PinH)] : List PinH).take ((1 + (((k_ : Int) % 7 : Int) / 5)).toNat), (⟨IntKind.u8.wrap ((k_ : Int) % 2 : Int), ((k_ : Int) / 2 : Int) % 2, (k_ : Int) % 5⟩ : PinH), (k_ : Int) % 4⟩ : HAct)]), SlAt 3 (Value.slice (some ⟨b29, 0, none⟩) 2 2) ([(⟨IntKind.u8.wrap ((k_ : Int) % 2 : Int), ((k_ : Int) / 2 : Int) % 2, (k_ : Int) % 5⟩ : PinH), (⟨1, (k_ : Int) % 3, 3⟩ : PinH)] : List PinH).length (([(⟨IntKind.u8.wrap ((k_ : Int) % 2 : Int), ((k_ : Int) / 2 : Int) % 2, (k_ : Int) % 5⟩ : PinH), (⟨1, (k_ : Int) % 3, 3⟩ : PinH)] : List PinH).flatMap pinE), RepL HActT cs_ xs_] _ := M
      replace M := M.rechunk 2 (c' := own 37 6 v31 ((xs_ ++ [(⟨(k_ : Int) % 6, ([(⟨IntKind.u8.wrap ((k_ : Int) % 2 : Int), ((k_ : Int) / 2 : Int) % 2, (k_ : Int) % 5⟩ : PinH), (⟨1, (k_ : Int) % 3, 3⟩ : PinH)] : List PinH).take ((1 + (((k_ : Int) % 7 : Int) / 5)).toNat), (⟨IntKind.u8.wrap ((k_ : Int) % 2 : Int), ((k_ : Int) / 2 : Int) % 2, (k_ : Int) % 5⟩ : PinH), (k_ : Int) % 4⟩ : HAct)]).length) (cs_ ++ [(Value.int .i64 ((k_ : Int) % 6)), (Value.slice (some ⟨b29, 0, none⟩) ((1 + (((k_ : Int) % 7 : Int) / 5)).toNat) 2), (Value.int .u8 (IntKind.u8.wrap ((k_ : Int) % 2 : Int))), (Value.int .u64 (((k_ : Int) / 2 : Int) % 2)), (Value.int .u64 ((k_ : Int) % 5)), (Value.int .u64 ((k_ : Int) % 4))])) rfl (by rw [List.length_append]; rfl)
      replace M : Mem _ _ _ [blk b30 (.cells #[(Value.int .i64 ((k_ : Int) % 6)), (Value.slice (some ⟨b29, 0, none⟩) ((1 + (((k_ : Int) % 7 : Int) / 5)).toNat) 2), (Value.int .u8 (IntKind.u8.wrap ((k_ : Int) % 2 : Int))), (Value.int .u64 (((k_ : Int) / 2 : Int) % 2)), (Value.int .u64 ((k_ : Int) % 5)), (Value.int .u64 ((k_ : Int) % 4))] 37), blk b14 (.cells #[(Value.int .u8 (IntKind.u8.wrap ((k_ : Int) % 2 : Int))), (Value.int .u64 (((k_ : Int) / 2 : Int) % 2)), (Value.int .u64 ((k_ : Int) % 5))] 35), own 37 6 v31 ((xs_ ++ [(⟨(k_ : Int) % 6, ([(⟨IntKind.u8.wrap ((k_ : Int) % 2 : Int), ((k_ : Int) / 2 : Int) % 2, (k_ : Int) % 5⟩ : PinH), (⟨1, (k_ : Int) % 3, 3⟩ : PinH)] : List PinH).take ((1 + (((k_ : Int) % 7 : Int) / 5)).toNat), (⟨IntKind.u8.wrap ((k_ : Int) % 2 : Int), ((k_ : Int) / 2 : Int) % 2, (k_ : Int) % 5⟩ : PinH), (k_ : Int) % 4⟩ : HAct)]).length) (cs_ ++ [(Value.int .i64 ((k_ : Int) % 6)), (Value.slice (some ⟨b29, 0, none⟩) ((1 + (((k_ : Int) % 7 : Int) / 5)).toNat) 2), (Value.int .u8 (IntKind.u8.wrap ((k_ : Int) % 2 : Int))), (Value.int .u64 (((k_ : Int) / 2 : Int) % 2)), (Value.int .u64 ((k_ : Int) % 5)), (Value.int .u64 ((k_ : Int) % 4))])] [RepL HActT (cs_ ++ [(Value.int .i64 ((k_ : Int) % 6)), (Value.slice (some ⟨b29, 0, none⟩) ((1 + (((k_ : Int) % 7 : Int) / 5)).toNat) 2), (Value.int .u8 (IntKind.u8.wrap ((k_ : Int) % 2 : Int))), (Value.int .u64 (((k_ : Int) / 2 : Int) % 2)), (Value.int .u64 ((k_ : Int) % 5)), (Value.int .u64 ((k_ : Int) % 4))]) (xs_ ++ [(⟨(k_ : Int) % 6, ([(⟨IntKind.u8.wrap ((k_ : Int) % 2 : Int), ((k_ : Int) / 2 : Int) % 2, (k_ : Int) % 5⟩ : PinH), (⟨1, (k_ : Int) % 3, 3⟩ : PinH)] : List PinH).take ((1 + (((k_ : Int) % 7 : Int) / 5)).toNat), (⟨IntKind.u8.wrap ((k_ : Int) % 2 : Int), ((k_ : Int) / 2 : Int) % 2, (k_ : Int) % 5⟩ : PinH), (k_ : Int) % 4⟩ : HAct)]), SlAt 3 (Value.slice (some ⟨b29, 0, none⟩) 2 2) ([(⟨IntKind.u8.wrap ((k_ : Int) % 2 : Int), ((k_ : Int) / 2 : Int) % 2, (k_ : Int) % 5⟩ : PinH), (⟨1, (k_ : Int) % 3, 3⟩ : PinH)] : List PinH).length (([(⟨IntKind.u8.wrap ((k_ : Int) % 2 : Int), ((k_ : Int) / 2 : Int) % 2, (k_ : Int) % 5⟩ : PinH), (⟨1, (k_ : Int) % 3, 3⟩ : PinH)] : List PinH).flatMap pinE), RepL HActT cs_ xs_] _ := M
      replace M := M.sel (L' := [own 37 6 v31 ((xs_ ++ [(⟨(k_ : Int) % 6, ([(⟨IntKind.u8.wrap ((k_ : Int) % 2 : Int), ((k_ : Int) / 2 : Int) % 2, (k_ : Int) % 5⟩ : PinH), (⟨1, (k_ : Int) % 3, 3⟩ : PinH)] : List PinH).take ((1 + (((k_ : Int) % 7 : Int) / 5)).toNat), (⟨IntKind.u8.wrap ((k_ : Int) % 2 : Int), ((k_ : Int) / 2 : Int) % 2, (k_ : Int) % 5⟩ : PinH), (k_ : Int) % 4⟩ : HAct)]).length) (cs_ ++ [(Value.int .i64 ((k_ : Int) % 6)), (Value.slice (some ⟨b29, 0, none⟩) ((1 + (((k_ : Int) % 7 : Int) / 5)).toNat) 2), (Value.int .u8 (IntKind.u8.wrap ((k_ : Int) % 2 : Int))), (Value.int .u64 (((k_ : Int) / 2 : Int) % 2)), (Value.int .u64 ((k_ : Int) % 5)), (Value.int .u64 ((k_ : Int) % 4))])]) [2] rfl (by decide)
      replace M := M.facts (R' := [RepL HActT (cs_ ++ [(Value.int .i64 ((k_ : Int) % 6)), (Value.slice (some ⟨b29, 0, none⟩) ((1 + (((k_ : Int) % 7 : Int) / 5)).toNat) 2), (Value.int .u8 (IntKind.u8.wrap ((k_ : Int) % 2 : Int))), (Value.int .u64 (((k_ : Int) / 2 : Int) % 2)), (Value.int .u64 ((k_ : Int) % 5)), (Value.int .u64 ((k_ : Int) % 4))]) (xs_ ++ [(⟨(k_ : Int) % 6, ([(⟨IntKind.u8.wrap ((k_ : Int) % 2 : Int), ((k_ : Int) / 2 : Int) % 2, (k_ : Int) % 5⟩ : PinH), (⟨1, (k_ : Int) % 3, 3⟩ : PinH)] : List PinH).take ((1 + (((k_ : Int) % 7 : Int) / 5)).toNat), (⟨IntKind.u8.wrap ((k_ : Int) % 2 : Int), ((k_ : Int) / 2 : Int) % 2, (k_ : Int) % 5⟩ : PinH), (k_ : Int) % 4⟩ : HAct)])]) (Facts.all ⟨M.shr' 0 rfl, trivial⟩)
      exact ⟨_, (by omega), i_ + 1, _, cs_ ++ [(Value.int .i64 ((k_ : Int) % 6)), (Value.slice (some ⟨b29, 0, none⟩) ((1 + (((k_ : Int) % 7 : Int) / 5)).toNat) 2), (Value.int .u8 (IntKind.u8.wrap ((k_ : Int) % 2 : Int))), (Value.int .u64 (((k_ : Int) / 2 : Int) % 2)), (Value.int .u64 ((k_ : Int) % 5)), (Value.int .u64 ((k_ : Int) % 4))], xs_ ++ [(⟨(k_ : Int) % 6, ([(⟨IntKind.u8.wrap ((k_ : Int) % 2 : Int), ((k_ : Int) / 2 : Int) % 2, (k_ : Int) % 5⟩ : PinH), (⟨1, (k_ : Int) % 3, 3⟩ : PinH)] : List PinH).take ((1 + (((k_ : Int) % 7 : Int) / 5)).toNat), (⟨IntKind.u8.wrap ((k_ : Int) % 2 : Int), ((k_ : Int) / 2 : Int) % 2, (k_ : Int) % 5⟩ : PinH), (k_ : Int) % 4⟩ : HAct)], _, ⟨(by omega), (by rw [List.length_append, List.length_singleton]; omega), (act_snoc hxin_ (by simp only; omega) (by simp only; omega)), (by omega), (by omega), rfl⟩, ⟨rfl, rfl, rfl, rfl, rfl, rfl, rfl, rfl, rfl⟩, M⟩
    ·
      have h13p := of_decide_eq_false h13
      refine W.exit ?_
      refine thn_exit ?_
      refine thn_exit ?_
      refine inBlk_hit ?_
      refine W.seq' ?_
      refine W.region rfl ?_
      refine WL.step (v := lv_) rfl (Step.move rfl) ?_
      refine WL.step (v := (Value.int .i64 ↑n_)) rfl (Step.move rfl) ?_
      refine WL.step (v := (Value.int .i64 ((↑n_ : Int) % 6))) rfl (Step.remN rfl rfl (by omega) (by decide)) ?_
      refine WL.step (v := (Value.int .u64 ((↑n_ : Int) % 6))) rfl (Step.conv Try.un3 Try.un23 rfl (wrap_u64 (by omega))) ?_
      refine WL.step (v := (Value.int .i64 ↑n_)) rfl (Step.move rfl) ?_
      refine WL.step (v := (Value.int .i64 ((↑n_ : Int) % 7))) rfl (Step.remN rfl rfl (by omega) (by decide)) ?_
      refine WL.step (v := (Value.int .u64 ((↑n_ : Int) % 7))) rfl (Step.conv Try.un3 Try.un23 rfl (wrap_u64 (by omega))) ?_
      refine WL.callX rfl (law23_plays lv_ xs_ ((↑n_ : Int) % 6) ((↑n_ : Int) % 7) (by omega) (M.enterW0 ⟨(((M.wideC0 0 rfl).and (M.wideR0 0 rfl)).imp fun _ ⟨h1_, h2_⟩ => ⟨_, own_slAt h1_, h2_⟩), trivial⟩)) (CallsF.func Try.en3 rfl) ?_
      rintro _ w35 ⟨rfl, m⟩
      replace M := M.leaveW0 m
      clear m
      replace M : Mem _ _ _ [own 37 6 lv_ xs_.length cs_] [RepL HActT cs_ xs_] _ := M
      refine WL.step (v := (Value.bool false)) rfl (Step.pure (by kernel_rfl)) ?_
      refine WL.step (v := (Value.bool false)) rfl (Step.move rfl) ?_
      refine WL.step (v := (Value.int .i64 ↑n_)) rfl (Step.move rfl) ?_
      refine WL.step (v := (Value.int .i64 ((↑n_ : Int) % 2))) rfl (Step.remN rfl rfl (by omega) (by decide)) ?_
      refine WL.step (v := (Value.bool (((↑n_ : Int) % 2 : Int) == (0 : Int)))) rfl (Step.pure (by kernel_rfl)) ?_
      refine WL.step (v := (Value.bool (((↑n_ : Int) % 2 : Int) == (0 : Int)))) rfl (Step.move rfl) ?_
      rcases Bool.eq_false_or_eq_true (((↑n_ : Int) % 2 : Int) == (0 : Int)) with h36 | h36
      ·
        have h36p : ((↑n_ : Int) % 2 : Int) = (0 : Int) := by simpa using h36
        rw [h36]
        refine WL.step (v := lv_) rfl (Step.move rfl) ?_
        refine WL.callX rfl (law23_floors lv_ xs_ (by first | assumption | (intro a h; cases h)) (M.enterW0 ⟨(((M.wideC0 0 rfl).and (M.wideR0 0 rfl)).imp fun _ ⟨h1_, h2_⟩ => ⟨_, own_slAt h1_, h2_⟩), trivial⟩)) (CallsF.func Try.en4 rfl) ?_
        rintro _ w37 ⟨rfl, m⟩
        replace M := M.leaveW0 m
        clear m
        replace M : Mem _ _ _ [own 37 6 lv_ xs_.length cs_] [RepL HActT cs_ xs_] _ := M
        refine WL.step (v := (Value.bool false)) rfl (Step.pure (by kernel_rfl)) ?_
        refine WL.step (v := (Value.bool false)) rfl (Step.pick (t := true) rfl rfl) ?_
        refine WL.step (v := (Value.bool false)) rfl (Step.pick (t := false) rfl rfl) ?_
        refine WL.nil ?_
        refine W.cond (t := false) rfl (fun h => by cases h) (fun _ => ?_)
        refine W.skip ?_
        refine W.region rfl ?_
        refine WL.step (v := (Value.int .i64 ↑n_)) rfl (Step.move rfl) ?_
        refine WL.step (v := (Value.int .i64 (↑n_ + 1))) rfl (Step.add rfl rfl (wrap_i64 (by omega))) ?_
        refine WL.step (v := (Value.int .i64 (↑n_ + 1))) rfl (Step.assign rfl) ?_
        refine WL.nil ?_
        replace M := M.sel (L' := []) [] rfl (by decide)
        replace M := M.sub (List.Sublist.refl _) (R' := []) (fun r h => (List.mem_cons_of_mem _ h))
        exact ⟨_, (by omega), n_ + 1, ⟨(by omega), rfl⟩, ⟨rfl, rfl, rfl⟩, M⟩
      ·
        have h36p : ¬ ((↑n_ : Int) % 2 : Int) = (0 : Int) := by simpa using h36
        rw [h36]
        refine WL.pass rfl ?_
        refine WL.pass rfl ?_
        refine WL.pass rfl ?_
        refine WL.step (v := (Value.bool false)) rfl (Step.pick (t := false) rfl rfl) ?_
        refine WL.step (v := (Value.bool false)) rfl (Step.pick (t := false) rfl rfl) ?_
        refine WL.nil ?_
        refine W.cond (t := false) rfl (fun h => by cases h) (fun _ => ?_)
        refine W.skip ?_
        refine W.region rfl ?_
        refine WL.step (v := (Value.int .i64 ↑n_)) rfl (Step.move rfl) ?_
        refine WL.step (v := (Value.int .i64 (↑n_ + 1))) rfl (Step.add rfl rfl (wrap_i64 (by omega))) ?_
        refine WL.step (v := (Value.int .i64 (↑n_ + 1))) rfl (Step.assign rfl) ?_
        refine WL.nil ?_
        replace M := M.sel (L' := []) [] rfl (by decide)
        replace M := M.sub (List.Sublist.refl _) (R' := []) (fun r h => (List.mem_cons_of_mem _ h))
        exact ⟨_, (by omega), n_ + 1, ⟨(by omega), rfl⟩, ⟨rfl, rfl, rfl⟩, M⟩
  ·
    have h4p := of_decide_eq_false h4
    refine W.exit ?_
    refine thn_exit ?_
    refine thn_exit ?_
    refine inBlk_hit ?_
    refine W.seq' ?_
    refine W.region rfl ?_
    refine WL.step (v := (Value.agg #[(Value.int .u8 0), (Value.int .u64 0), (Value.int .u64 0)])) rfl (Step.pure (by kernel_rfl)) ?_
    refine WL.callX rfl (law23_none (⟨0, 0, 0⟩ : PinH) 1 2 (M.enterW0 trivial)) (CallsF.func Try.en5 rfl) ?_
    rintro _ w38 ⟨rfl, m⟩
    replace M := M.leaveW0 m
    clear m
    replace M : Mem _ _ _ [] [] _ := M
    refine WL.step (v := (Value.bool true)) rfl (Step.move rfl) ?_
    refine WL.callX rfl (law23_plays (Value.slice none 0 0) ([] : List HAct) 18446744073709551615 18446744073709551615 (by omega) (M.enterW0 ⟨(Sh.pure fun w => RepS.nil HActT w), trivial⟩)) (CallsF.func Try.en3 rfl) ?_
    rintro _ w39 ⟨rfl, m⟩
    replace M := M.leaveW0 m
    clear m
    replace M : Mem _ _ _ [] [] _ := M
    refine WL.step (v := (Value.bool true)) rfl (Step.pick (t := true) rfl rfl) ?_
    refine WL.step (v := (Value.bool true)) rfl (Step.move rfl) ?_
    refine WL.callX rfl (law23_floors (Value.slice none 0 0) ([] : List HAct) (by first | assumption | (intro a h; cases h)) (M.enterW0 ⟨(Sh.pure fun w => RepS.nil HActT w), trivial⟩)) (CallsF.func Try.en4 rfl) ?_
    rintro _ w40 ⟨rfl, m⟩
    replace M := M.leaveW0 m
    clear m
    replace M : Mem _ _ _ [] [] _ := M
    refine WL.step (v := (Value.bool true)) rfl (Step.pick (t := true) rfl rfl) ?_
    refine WL.step (v := (Value.bool true)) rfl (Step.move rfl) ?_
    refine WL.callX rfl (law23_works  (M.enterW0 trivial)) (CallsF.func Try.en11 rfl) ?_
    rintro _ w41 ⟨rfl, m⟩
    replace M := M.leaveW0 m
    clear m
    replace M : Mem _ _ _ [] [] _ := M
    refine WL.step (v := (Value.bool true)) rfl (Step.pick (t := true) rfl rfl) ?_
    refine WL.step (v := (Value.bool true)) rfl (Step.assign rfl) ?_
    refine WL.nil ?_
    refine W.ret ?_
    refine ⟨.inl rfl, (Value.bool true), ?_, ?_⟩
    · exact ⟨rfl, (Res.r1 (show RV _ _ _ (.tmp 0) (Value.bool true) from by exact rfl))⟩
    refine ⟨?_, M.close [] rfl (by decide) trivial⟩
    rfl
end Go.Proofs
