/- Walks. -/
import Derived.Test.YtlehkjkpgmkbiaaTrL13
set_option maxRecDepth 100000
set_option linter.all false
namespace Go.Proofs
open Go Tp
theorem Try.un3 : Und Try.prog 3 (.int .i64) := by unfold Und; kernel_rfl
theorem Try.un23 : Und Try.prog 23 (.int .u64) := by unfold Und; kernel_rfl
theorem Try.en8 : Enters Try.prog 8 := fun _ _ => by kernel_rfl
theorem Try.en9 : Enters Try.prog 9 := fun _ _ => by kernel_rfl
theorem Try.en10 : Enters Try.prog 10 := fun _ _ => by kernel_rfl

set_option maxHeartbeats 4000000 in
theorem law_known {G : Nat → Prop} {w : World}    (M : Mem G (fun _ => False) w [] [] w) : Rets Try.prog 11 #[] w fun r w' => r = (Value.bool true) ∧ Mem G (fun _ => False) w [] [] w' := by
  refine Rets.enter 94 _ Try.func11 rfl Try.ntmps11 Try.results11 (by simp) ?_
  refine W.seq' ?_
  refine W.region rfl ?_
  refine WL.step (v := (Value.bool false)) rfl (Step.assign rfl) ?_
  refine WL.nil ?_
  refine W.seq' ?_
  refine W.seq' ?_
  refine W.region rfl ?_
  refine WL.step (v := (Value.int .i64 0)) rfl (Step.assign rfl) ?_
  refine WL.nil ?_
  refine W.block ?_
  refine W.loop (fun kk ρ w' => ∃ (n_ : Nat), ((n_ ≤ 200) ∧ kk = 200 - n_) ∧ ρ.has [(1, (Value.int .i64 ↑n_))] ∧ Mem G (fun _ => False) w [] []  w') _ ⟨0, ⟨(by decide), rfl⟩, ⟨rfl, rfl, rfl⟩, M⟩ ?_
  rintro _ ρ2 w1 ⟨n_, ⟨hi3, rfl⟩, hρ, M⟩
  obtain ⟨ρ2, rfl⟩ := hρ.know
  clear hρ
  refine W.seq' ?_
  refine W.seq' ?_
  refine W.region rfl ?_
  refine WL.step (v := (Value.int .i64 ↑n_)) rfl (Step.move rfl) ?_
  refine WL.step (v := (Value.bool (decide ((↑n_ : Int) < (200 : Int))))) rfl (Step.pure (by kernel_rfl)) ?_
  refine WL.nil ?_
  refine W.cond (t := decide ((↑n_ : Int) < (200 : Int))) rfl (fun h4 => ?_) (fun h4 => ?_)
  ·
    have h4p := of_decide_eq_true h4
    refine W.skip ?_
    refine W.seq' ?_
    refine W.block ?_
    refine W.seq' ?_
    refine W.region rfl ?_
    refine WL.step (v := (Value.slice none 0 0)) rfl (Step.assign rfl) ?_
    refine WL.nil ?_
    refine W.seq' ?_
    refine W.region rfl ?_
    refine WL.step (v := (Value.int .i64 ↑n_)) rfl (Step.move rfl) ?_
    refine WL.step (v := (Value.int .i64 ↑n_)) rfl (Step.assign rfl) ?_
    refine WL.nil ?_
    refine W.seq' ?_
    refine W.seq' ?_
    refine W.region rfl ?_
    refine WL.step (v := (Value.int .i64 0)) rfl (Step.assign rfl) ?_
    refine WL.nil ?_
    refine W.block ?_
    replace M := M.ownNil 75 6
    replace M := M.rechunk 0 (c' := own 75 6 (Value.slice none 0 0) (([] : List LAct).length) (([] : List LAct).flatMap lactE)) rfl rfl
    replace M : Mem _ _ _ [own 75 6 (Value.slice none 0 0) (([] : List LAct).length) (([] : List LAct).flatMap lactE)] [] _ := M
    refine W.loop (fun kk ρ w' => ∃ (ia_ : Nat) (kk_ : Int) (lv_ : Value) (ls_ : List LAct), ((ia_ ≤ 14) ∧ (0 ≤ kk_) ∧ (kk_ ≤ 10007) ∧ (ls_.length = ia_) ∧ kk = 14 - ia_) ∧ ρ.has [(1, (Value.int .i64 ↑n_)), (2, lv_), (3, (Value.int .i64 kk_)), (4, (Value.int .i64 ↑ia_)), (5, (Value.int .i64 ↑n_)), (6, (Value.bool (decide ((↑n_ : Int) < (200 : Int))))), (9, (Value.int .i64 ↑n_))] ∧ Mem G (fun _ => False) w [own 75 6 lv_ ls_.length (ls_.flatMap lactE)] []  w') _ ⟨0, ↑n_, _, ([] : List LAct), ⟨(by decide), (by omega), (by omega), rfl, rfl⟩, ⟨rfl, rfl, rfl, rfl, rfl, rfl, rfl, rfl, rfl⟩, M⟩ ?_
    rintro _ ρ6 w5 ⟨ia_, kk_, lv_, ls_, ⟨hi7, hi8, hi9, hi10, rfl⟩, hρ, M⟩
    obtain ⟨ρ6, rfl⟩ := hρ.know
    clear hρ
    have sl11 : IsSl lv_ := SlAt.isSl (own_slAt (M.chunk 0 rfl).inv)
    have hl1_ := hi10
    refine W.seq' ?_
    refine W.seq' ?_
    refine W.region rfl ?_
    refine WL.step (v := (Value.int .i64 ↑ia_)) rfl (Step.move rfl) ?_
    refine WL.step (v := (Value.bool (decide ((↑ia_ : Int) < (14 : Int))))) rfl (Step.pure (by kernel_rfl)) ?_
    refine WL.nil ?_
    refine W.cond (t := decide ((↑ia_ : Int) < (14 : Int))) rfl (fun h12 => ?_) (fun h12 => ?_)
    ·
      have h12p := of_decide_eq_true h12
      refine W.skip ?_
      refine W.seq' ?_
      refine W.block ?_
      refine W.seq' ?_
      refine W.region rfl ?_
      refine WL.step (v := lv_) rfl (Step.move rfl) ?_
      refine WL.step (v := (Value.int .i64 kk_)) rfl (Step.move rfl) ?_
      refine WL.step (v := (Value.int .i64 ↑ia_)) rfl (Step.move rfl) ?_
      refine WL.step (v := (Value.int .i64 (kk_ + ↑ia_))) rfl (Step.add rfl rfl (wrap_i64 (by omega))) ?_
      refine WL.step (v := (Value.int .i64 ((kk_ + ↑ia_ : Int) % 8))) rfl (Step.remN rfl rfl (by omega) (by decide)) ?_
      refine WL.step (v := (Value.int .i64 kk_)) rfl (Step.move rfl) ?_
      refine WL.step (v := (Value.int .i64 ((kk_ : Int) / 3))) rfl (Step.quoN rfl rfl (by omega) (by decide) (wrap_i64 (by omega))) ?_
      refine WL.step (v := (Value.int .i64 (((kk_ : Int) / 3 : Int) % 3))) rfl (Step.remN rfl rfl (by omega) (by decide)) ?_
      refine WL.step (v := (Value.int .i64 kk_)) rfl (Step.move rfl) ?_
      refine WL.step (v := (Value.int .i64 ((kk_ : Int) / 5))) rfl (Step.quoN rfl rfl (by omega) (by decide) (wrap_i64 (by omega))) ?_
      refine WL.step (v := (Value.int .i64 (((kk_ : Int) / 5 : Int) % 6))) rfl (Step.remN rfl rfl (by omega) (by decide)) ?_
      refine WL.step (v := (Value.int .i64 (((kk_ : Int) / 5 : Int) % 6 + 1))) rfl (Step.add rfl rfl (wrap_i64 (by omega))) ?_
      refine WL.step (v := (Value.int .u64 (((kk_ : Int) / 5 : Int) % 6 + 1))) rfl (Step.conv Try.un3 Try.un23 rfl (wrap_u64 (by omega))) ?_
      refine WL.step (v := (Value.int .i64 kk_)) rfl (Step.move rfl) ?_
      refine WL.step (v := (Value.int .i64 ((kk_ : Int) % 9))) rfl (Step.remN rfl rfl (by omega) (by decide)) ?_
      refine WL.step (v := (Value.int .u64 ((kk_ : Int) % 9))) rfl (Step.conv Try.un3 Try.un23 rfl (wrap_u64 (by omega))) ?_
      refine WL.step (v := (Value.int .i64 kk_)) rfl (Step.move rfl) ?_
      refine WL.step (v := (Value.int .i64 ((kk_ : Int) / 2))) rfl (Step.quoN rfl rfl (by omega) (by decide) (wrap_i64 (by omega))) ?_
      refine WL.step (v := (Value.int .i64 (((kk_ : Int) / 2 : Int) % 11))) rfl (Step.remN rfl rfl (by omega) (by decide)) ?_
      refine WL.step (v := (Value.int .u64 (((kk_ : Int) / 2 : Int) % 11))) rfl (Step.conv Try.un3 Try.un23 rfl (wrap_u64 (by omega))) ?_
      refine WL.step (v := (Value.int .i64 kk_)) rfl (Step.move rfl) ?_
      refine WL.step (v := (Value.int .i64 ((kk_ : Int) % 4))) rfl (Step.remN rfl rfl (by omega) (by decide)) ?_
      refine WL.step (v := (Value.bool (((kk_ : Int) % 4 : Int) == (0 : Int)))) rfl (Step.pure (by kernel_rfl)) ?_
      refine WL.step (v := (Value.agg #[(Value.int .i64 ((kk_ + ↑ia_ : Int) % 8)), (Value.int .i64 (((kk_ : Int) / 3 : Int) % 3)), (Value.int .u64 (((kk_ : Int) / 5 : Int) % 6 + 1)), (Value.int .u64 ((kk_ : Int) % 9)), (Value.int .u64 (((kk_ : Int) / 2 : Int) % 11)), (Value.bool (((kk_ : Int) % 4 : Int) == (0 : Int)))])) rfl (Step.pure (by kernel_rfl)) ?_
      refine WL.new (obj := .cells #[(Value.int .i64 ((kk_ + ↑ia_ : Int) % 8)), (Value.int .i64 (((kk_ : Int) / 3 : Int) % 3)), (Value.int .u64 (((kk_ : Int) / 5 : Int) % 6 + 1)), (Value.int .u64 ((kk_ : Int) % 9)), (Value.int .u64 (((kk_ : Int) / 2 : Int) % 11)), (Value.bool (((kk_ : Int) % 4 : Int) == (0 : Int)))] 75) (fun b => .slice (some ⟨b, 0, none⟩) 1 1) M rfl (fun w => Step.make (by kernel_rfl)) (fun b13 w14 hb13 M => ?_)
      refine WL.does rfl (M.appendF ls_ ([(⟨(kk_ + ↑ia_ : Int) % 8, ((kk_ : Int) / 3 : Int) % 3, ((kk_ : Int) / 5 : Int) % 6 + 1, (kk_ : Int) % 9, ((kk_ : Int) / 2 : Int) % 11, ((kk_ : Int) % 4 : Int) == (0 : Int)⟩ : LAct)] : List LAct) (sv := (Value.slice (some ⟨b13, 0, none⟩) 1 1)) 1 Try.un73 Try.el75 rfl (by decide) rfl rfl rfl (SlAt.of_blk (M.blk 0 rfl) rfl (by decide)) lactE_cel (by have := (by omega); simp only [maxLen, List.length_nil, List.length_cons, List.length_append]; omega) (by have := (by omega); (try simp only [List.length_nil, List.length_cons, List.length_append]); omega)) ?_
      rintro v15 w16 M
      replace M : Mem _ _ _ [blk b13 (.cells #[(Value.int .i64 ((kk_ + ↑ia_ : Int) % 8)), (Value.int .i64 (((kk_ : Int) / 3 : Int) % 3)), (Value.int .u64 (((kk_ : Int) / 5 : Int) % 6 + 1)), (Value.int .u64 ((kk_ : Int) % 9)), (Value.int .u64 (((kk_ : Int) / 2 : Int) % 11)), (Value.bool (((kk_ : Int) % 4 : Int) == (0 : Int)))] 75), own 75 6 v15 ((ls_ ++ ([(⟨(kk_ + ↑ia_ : Int) % 8, ((kk_ : Int) / 3 : Int) % 3, ((kk_ : Int) / 5 : Int) % 6 + 1, (kk_ : Int) % 9, ((kk_ : Int) / 2 : Int) % 11, ((kk_ : Int) % 4 : Int) == (0 : Int)⟩ : LAct)] : List LAct)).length) ((ls_ ++ ([(⟨(kk_ + ↑ia_ : Int) % 8, ((kk_ : Int) / 3 : Int) % 3, ((kk_ : Int) / 5 : Int) % 6 + 1, (kk_ : Int) % 9, ((kk_ : Int) / 2 : Int) % 11, ((kk_ : Int) % 4 : Int) == (0 : Int)⟩ : LAct)] : List LAct)).flatMap lactE)] [] _ := M
      have sl17 : IsSl v15 := SlAt.isSl (own_slAt (M.chunk 1 rfl).inv)
      refine WL.step (v := v15) rfl (Step.assign rfl) ?_
      refine WL.nil ?_
      refine W.seq' ?_
      refine W.region rfl ?_
      refine WL.step (v := (Value.int .i64 kk_)) rfl (Step.move rfl) ?_
      refine WL.step (v := (Value.int .i64 (kk_ * 7))) rfl (Step.mul rfl rfl (wrap_i64 (by omega))) ?_
      refine WL.step (v := (Value.int .i64 ↑ia_)) rfl (Step.move rfl) ?_
      refine WL.step (v := (Value.int .i64 (3 * ↑ia_))) rfl (Step.mul rfl rfl (wrap_i64 (by omega))) ?_
      refine WL.step (v := (Value.int .i64 (kk_ * 7 + (3 * ↑ia_)))) rfl (Step.add rfl rfl (wrap_i64 (by omega))) ?_
      refine WL.step (v := (Value.int .i64 (kk_ * 7 + (3 * ↑ia_) + 1))) rfl (Step.add rfl rfl (wrap_i64 (by omega))) ?_
      refine WL.step (v := (Value.int .i64 (kk_ * 7 + (3 * ↑ia_) + 1))) rfl (Step.assign rfl) ?_
      refine WL.nil ?_
      refine W.region rfl ?_
      refine WL.step (v := (Value.int .i64 (kk_ * 7 + (3 * ↑ia_) + 1))) rfl (Step.move rfl) ?_
      refine WL.step (v := (Value.int .i64 ((kk_ * 7 + (3 * ↑ia_) + 1 : Int) % 10007))) rfl (Step.remN rfl rfl (by omega) (by decide)) ?_
      refine WL.step (v := (Value.int .i64 ((kk_ * 7 + (3 * ↑ia_) + 1 : Int) % 10007))) rfl (Step.assign rfl) ?_
      refine WL.nil ?_
      refine W.region rfl ?_
      refine WL.step (v := (Value.int .i64 ↑ia_)) rfl (Step.move rfl) ?_
      refine WL.step (v := (Value.int .i64 (↑ia_ + 1))) rfl (Step.add rfl rfl (wrap_i64 (by omega))) ?_
      refine WL.step (v := (Value.int .i64 (↑ia_ + 1))) rfl (Step.assign rfl) ?_
      refine WL.nil ?_
      replace M := M.sel (L' := [own 75 6 v15 ((ls_ ++ ([(⟨(kk_ + ↑ia_ : Int) % 8, ((kk_ : Int) / 3 : Int) % 3, ((kk_ : Int) / 5 : Int) % 6 + 1, (kk_ : Int) % 9, ((kk_ : Int) / 2 : Int) % 11, ((kk_ : Int) % 4 : Int) == (0 : Int)⟩ : LAct)] : List LAct)).length) ((ls_ ++ ([(⟨(kk_ + ↑ia_ : Int) % 8, ((kk_ : Int) / 3 : Int) % 3, ((kk_ : Int) / 5 : Int) % 6 + 1, (kk_ : Int) % 9, ((kk_ : Int) / 2 : Int) % 11, ((kk_ : Int) % 4 : Int) == (0 : Int)⟩ : LAct)] : List LAct)).flatMap lactE)]) [1] rfl (by decide)
      exact ⟨_, (by omega), ia_ + 1, ((kk_ * 7 + (3 * ↑ia_) + 1 : Int) % 10007), _, ls_ ++ ([(⟨(kk_ + ↑ia_ : Int) % 8, ((kk_ : Int) / 3 : Int) % 3, ((kk_ : Int) / 5 : Int) % 6 + 1, (kk_ : Int) % 9, ((kk_ : Int) / 2 : Int) % 11, ((kk_ : Int) % 4 : Int) == (0 : Int)⟩ : LAct)] : List LAct), ⟨(by omega), (by omega), (by omega), (by simp; omega), rfl⟩, ⟨rfl, rfl, rfl, rfl, rfl, rfl, rfl, rfl, rfl⟩, M⟩
    ·
      have h12p := of_decide_eq_false h12
      refine W.exit ?_
      refine thn_exit ?_
      refine thn_exit ?_
      refine inBlk_hit ?_
      refine W.seq' ?_
      have hsh18 := SlAt.shp (own_slAt (M.chunk 0 rfl).inv)
      have hsh18c := hsh18
      obtain ⟨_, _, hsh18l, hsh18m⟩ := hsh18c
      obtain ⟨cap20, hb19⟩ := SlAt.base (own_slAt (M.chunk 0 rfl).inv) (by omega)
      obtain ⟨x21, hx21⟩ := elem_of_lt (xs := ls_) (i := 0) (by omega)
      refine W.drawn M [0, 1, 2, 3, 4, 5, 6, 7, 8, 9, 10, 11, 12, 13, 14, 15, 16, 17, 18, 19, 20, 21, 22, 23, 24, 25, 26, 27, 28, 29, 30, 31, 32] [3, 23, 30] [] [own 75 6 lv_ ls_.length (ls_.flatMap lactE)] [] (List.Sublist.cons_cons _ List.Sublist.slnil) (fun _ h => h) Try.mixed (by kernel_rfl) ?_
      refine TW.pure (v := (Value.int .i64 ↑n_)) rfl (by decide) (by decide) rfl (fun w => (Step.move rfl)) ?_
      refine TW.pure (v := (Value.int .i64 ((↑n_ : Int) % 5))) rfl (by decide) (by decide) rfl (fun w => (Step.remN rfl rfl (by omega) (by decide))) ?_
      refine TW.pure (v := lv_) rfl (by decide) (by decide) rfl (fun w => (Step.move rfl)) ?_
      refine TW.callX (ι := Unit) (fun jx v_ => v_ = (Value.bool true)) (fun jx => [own 75 6 lv_ ls_.length (ls_.flatMap lactE)]) (fun jx => []) rfl (by decide) rfl (fun jx => (List.Sublist.cons_cons _ List.Sublist.slnil)) (fun jx r h => h) (fun A w M => Rets.mono (law_plays ((↑n_ : Int) % 5) lv_ ls_ (M.enterW0 ⟨((M.wideC0 1 rfl).imp fun _ h => own_slAt h), trivial⟩)) (fun v_ w_ ⟨e_, m⟩ => ⟨(), e_, (M.leaveW0 m).sel (L' := [fl A, own 75 6 lv_ ls_.length (ls_.flatMap lactE)]) [0, 1] rfl (by decide), fun b hb => M.keptW0 m (fl A) (List.mem_cons_self ..) b hb⟩)) (fun w => CallsF.func Try.en9 rfl) (fun jx v hp hin => ?_)
      replace hp := hp.symm; subst hp
      clear hin
      change TW _ _ _ _ _ _ _ _ (MemA _ _ _ [own 75 6 lv_ ls_.length (ls_.flatMap lactE)] [])
      refine TW.pure (v := (Value.bool false)) rfl (by decide) (by decide) rfl (fun w => (Step.pure (by kernel_rfl))) ?_
      refine TW.pure (v := (Value.bool false)) rfl (by decide) (by decide) rfl (fun w => (Step.move rfl)) ?_
      refine TW.pure (v := lv_) rfl (by decide) (by decide) rfl (fun w => (Step.move rfl)) ?_
      refine TW.pure (v := (vTake 5 lv_)) rfl (by decide) (by decide) rfl (fun w => (Step.sliceToP (h := 5) Try.un73 Try.el75.sized rfl rfl rfl hsh18 (by obtain ⟨_, _, _, _⟩ := hsh18; omega))) ?_
      refine TW.pure (v := lv_) rfl (by decide) (by decide) rfl (fun w => (Step.move rfl)) ?_
      refine TW.pure (v := (vSlice 6 5 ls_.length (vCap lv_) lv_)) rfl (by decide) (by decide) rfl (fun w => (Step.sliceFromP (l := 5) Try.un73 Try.el75.sized rfl rfl rfl hsh18 (by omega))) ?_
      refine TW.pure (v := (Value.int .i64 ↑n_)) rfl (by decide) (by decide) rfl (fun w => (Step.move rfl)) ?_
      refine TW.pure (v := (Value.int .i64 ((↑n_ : Int) % 3))) rfl (by decide) (by decide) rfl (fun w => (Step.remN rfl rfl (by omega) (by decide))) ?_
      refine TW.pure (v := (Value.int .i64 ↑n_)) rfl (by decide) (by decide) rfl (fun w => (Step.move rfl)) ?_
      refine TW.pure (v := (Value.int .i64 ((↑n_ : Int) % 7))) rfl (by decide) (by decide) rfl (fun w => (Step.remN rfl rfl (by omega) (by decide))) ?_
      refine TW.pure (v := (Value.int .u64 ((↑n_ : Int) % 7))) rfl (by decide) (by decide) rfl (fun w => (Step.conv Try.un3 Try.un23 rfl (wrap_u64 (by omega)))) ?_
      refine TW.pure (v := (Value.int .i64 ↑n_)) rfl (by decide) (by decide) rfl (fun w => (Step.move rfl)) ?_
      refine TW.pure (v := (Value.int .i64 ((↑n_ : Int) % 9))) rfl (by decide) (by decide) rfl (fun w => (Step.remN rfl rfl (by omega) (by decide))) ?_
      refine TW.pure (v := (Value.int .i64 (3 + ((↑n_ : Int) % 9)))) rfl (by decide) (by decide) rfl (fun w => (Step.add rfl rfl (wrap_i64 (by omega)))) ?_
      refine TW.pure (v := (Value.int .u64 (3 + ((↑n_ : Int) % 9)))) rfl (by decide) (by decide) rfl (fun w => (Step.conv Try.un3 Try.un23 rfl (wrap_u64 (by omega)))) ?_
      refine TW.pure (v := (Value.int .i64 ↑n_)) rfl (by decide) (by decide) rfl (fun w => (Step.move rfl)) ?_
      refine TW.pure (v := (Value.int .i64 ((↑n_ : Int) % 2))) rfl (by decide) (by decide) rfl (fun w => (Step.remN rfl rfl (by omega) (by decide))) ?_
      refine TW.pure (v := (Value.bool (((↑n_ : Int) % 2 : Int) == (0 : Int)))) rfl (by decide) (by decide) rfl (fun w => (Step.pure (by kernel_rfl))) ?_
      refine TW.pure (v := (Value.agg #[(Value.int .i64 0), (Value.int .i64 ((↑n_ : Int) % 3)), (Value.int .u64 0), (Value.int .u64 ((↑n_ : Int) % 7)), (Value.int .u64 (3 + ((↑n_ : Int) % 9))), (Value.bool (((↑n_ : Int) % 2 : Int) == (0 : Int)))])) rfl (by decide) (by decide) rfl (fun w => (Step.pure (by kernel_rfl))) ?_
      refine TW.callX (ι := Unit) (fun jx v_ => v_ = (Value.bool true)) (fun jx => [own 75 6 lv_ ls_.length (ls_.flatMap lactE)]) (fun jx => []) rfl (by decide) rfl (fun jx => (List.Sublist.cons_cons _ List.Sublist.slnil)) (fun jx r h => h) (fun A w M => Rets.mono (law_stays 4 (vTake 5 lv_) (ls_.take 5) (vSlice 6 5 ls_.length (vCap lv_) lv_) ((ls_.drop 5).take (ls_.length - 5)) (⟨0, (↑n_ : Int) % 3, 0, (↑n_ : Int) % 7, 3 + ((↑n_ : Int) % 9), ((↑n_ : Int) % 2 : Int) == (0 : Int)⟩ : LAct) (M.enterW0 ⟨((((M.wideC0 1 rfl).imp fun _ h => own_slAt h)).imp fun _ h => slat_take lactE_len h (by omega)), ((((M.wideC0 1 rfl).imp fun _ h => own_slAt h)).imp fun _ h => slat_sliceF lactE_len (l := 5) (h := ls_.length) h (by omega) (by omega) (Nat.le_trans (by omega) (SlAt.cap h).1) (Nat.le_refl _)), trivial⟩)) (fun v_ w_ ⟨e_, m⟩ => ⟨(), e_, (M.leaveW0 m).sel (L' := [fl A, own 75 6 lv_ ls_.length (ls_.flatMap lactE)]) [0, 1] rfl (by decide), fun b hb => M.keptW0 m (fl A) (List.mem_cons_self ..) b hb⟩)) (fun w => CallsF.func Try.en8 rfl) (fun jx v hp hin => ?_)
      replace hp := hp.symm; subst hp
      clear hin
      change TW _ _ _ _ _ _ _ _ (MemA _ _ _ [own 75 6 lv_ ls_.length (ls_.flatMap lactE)] [])
      refine TW.pure (v := (Value.bool false)) rfl (by decide) (by decide) rfl (fun w => (Step.pure (by kernel_rfl))) ?_
      refine TW.pure (v := (Value.bool false)) rfl (by decide) (by decide) rfl (fun w => (Step.pick (t := false) rfl rfl)) ?_
      refine TW.pure (v := (Value.bool false)) rfl (by decide) (by decide) rfl (fun w => (Step.move rfl)) ?_
      refine TW.pure (v := lv_) rfl (by decide) (by decide) rfl (fun w => (Step.move rfl)) ?_
      refine TW.pure (v := (Value.pointer (some ⟨(sBlk lv_), sOff lv_ + 0 * 6, none⟩))) rfl (by decide) (by decide) rfl (fun w => (Step.indexAddr (i := 0) (Try.un73).run Try.el75.sized rfl rfl rfl hb19 (by omega))) ?_
      refine TW.read (v := (Value.agg #[(Value.int .i64 x21.op), (Value.int .i64 x21.owner), (Value.int .u64 x21.id), (Value.int .u64 x21.n), (Value.int .u64 x21.till), (Value.bool x21.cursor)])) rfl (by decide) (by decide) rfl (fun A w M => (Step.loadEN (k := 0) (cs' := [(Value.int .i64 x21.op), (Value.int .i64 x21.owner), (Value.int .u64 x21.id), (Value.int .u64 x21.n), (Value.int .u64 x21.till), (Value.bool x21.cursor)]) Try.ag75 (flat_ec (own_slAt (M.chunk 1 rfl).inv) hx21 lactE_len) (by decide) rfl rfl rfl)) ?_
      refine TW.callX (ι := Unit) (fun jx v_ => v_ = (Value.bool true)) (fun jx => [own 75 6 lv_ ls_.length (ls_.flatMap lactE)]) (fun jx => []) rfl (by decide) rfl (fun jx => (List.Sublist.cons_cons _ List.Sublist.slnil)) (fun jx r h => h) (fun A w M => Rets.mono (law_none x21 (M.enterW0 trivial)) (fun v_ w_ ⟨e_, m⟩ => ⟨(), e_, (M.leaveW0 m).sel (L' := [fl A, own 75 6 lv_ ls_.length (ls_.flatMap lactE)]) [0, 1] rfl (by decide), fun b hb => M.keptW0 m (fl A) (List.mem_cons_self ..) b hb⟩)) (fun w => CallsF.func Try.en10 rfl) (fun jx v hp hin => ?_)
      replace hp := hp.symm; subst hp
      clear hin
      change TW _ _ _ _ _ _ _ _ (MemA _ _ _ [own 75 6 lv_ ls_.length (ls_.flatMap lactE)] [])
      refine TW.pure (v := (Value.bool false)) rfl (by decide) (by decide) rfl (fun w => (Step.pure (by kernel_rfl))) ?_
      refine TW.pure (v := (Value.bool false)) rfl (by decide) (by decide) rfl (fun w => (Step.pick (t := false) rfl rfl)) ?_
      refine TW.done (fun w22 M => ?_)
      refine W.cond (t := false) rfl (fun h => by cases h) (fun _ => ?_)
      refine W.skip ?_
      refine W.region rfl ?_
      refine WL.step (v := (Value.int .i64 ↑n_)) rfl (Step.move rfl) ?_
      refine WL.step (v := (Value.int .i64 (↑n_ + 1))) rfl (Step.add rfl rfl (wrap_i64 (by omega))) ?_
      refine WL.step (v := (Value.int .i64 (↑n_ + 1))) rfl (Step.assign rfl) ?_
      refine WL.nil ?_
      replace M := M.sel (L' := []) [] rfl (by decide)
      exact ⟨_, (by omega), n_ + 1, ⟨(by omega), rfl⟩, ⟨rfl, rfl, rfl⟩, M⟩
  ·
    have h4p := of_decide_eq_false h4
    refine W.exit ?_
    refine thn_exit ?_
    refine thn_exit ?_
    refine inBlk_hit ?_
    refine W.seq' ?_
    refine W.region rfl ?_
    refine WL.step (v := (Value.agg #[(Value.int .i64 0), (Value.int .i64 0), (Value.int .u64 0), (Value.int .u64 0), (Value.int .u64 0), (Value.bool false)])) rfl (Step.pure (by kernel_rfl)) ?_
    refine WL.new (obj := .cells #[(Value.int .i64 0), (Value.int .i64 0), (Value.int .u64 0), (Value.int .u64 0), (Value.int .u64 0), (Value.bool false)] 75) (fun b => .slice (some ⟨b, 0, none⟩) 1 1) M rfl (fun w => Step.make (by kernel_rfl)) (fun b23 w24 hb23 M => ?_)
    refine WL.callX rfl (law_plays (-1) (Value.slice (some ⟨b23, 0, none⟩) 1 1) ([(⟨0, 0, 0, 0, 0, false⟩ : LAct)] : List LAct) (M.enterW0 ⟨((M.wideC0 0 rfl).imp fun _ h => SlAt.of_blk (n := 1) (size := 6) h rfl (by decide)), trivial⟩)) (CallsF.func Try.en9 rfl) ?_
    rintro _ w25 ⟨rfl, m⟩
    replace M := M.leaveW0 m
    clear m
    replace M : Mem _ _ _ [blk b23 (.cells #[(Value.int .i64 0), (Value.int .i64 0), (Value.int .u64 0), (Value.int .u64 0), (Value.int .u64 0), (Value.bool false)] 75)] [] _ := M
    refine WL.step (v := (Value.bool true)) rfl (Step.move rfl) ?_
    refine WL.step (v := (Value.agg #[(Value.int .i64 0), (Value.int .i64 0), (Value.int .u64 0), (Value.int .u64 18446744073709551615), (Value.int .u64 18446744073709551615), (Value.bool false)])) rfl (Step.pure (by kernel_rfl)) ?_
    refine WL.step (v := (Value.agg #[(Value.int .i64 6), (Value.int .i64 0), (Value.int .u64 0), (Value.int .u64 18446744073709551614), (Value.int .u64 0), (Value.bool false)])) rfl (Step.pure (by kernel_rfl)) ?_
    refine WL.step (v := (Value.agg #[(Value.int .i64 6), (Value.int .i64 0), (Value.int .u64 0), (Value.int .u64 18446744073709551615), (Value.int .u64 0), (Value.bool false)])) rfl (Step.pure (by kernel_rfl)) ?_
    refine WL.new (obj := .cells #[(Value.int .i64 0), (Value.int .i64 0), (Value.int .u64 0), (Value.int .u64 18446744073709551615), (Value.int .u64 18446744073709551615), (Value.bool false), (Value.int .i64 6), (Value.int .i64 0), (Value.int .u64 0), (Value.int .u64 18446744073709551614), (Value.int .u64 0), (Value.bool false), (Value.int .i64 6), (Value.int .i64 0), (Value.int .u64 0), (Value.int .u64 18446744073709551615), (Value.int .u64 0), (Value.bool false)] 75) (fun b => .slice (some ⟨b, 0, none⟩) 3 3) M rfl (fun w => Step.make (by kernel_rfl)) (fun b26 w27 hb26 M => ?_)
    refine WL.callX rfl (law_plays 1 (Value.slice (some ⟨b26, 0, none⟩) 3 3) ([(⟨0, 0, 0, 18446744073709551615, 18446744073709551615, false⟩ : LAct), (⟨6, 0, 0, 18446744073709551614, 0, false⟩ : LAct), (⟨6, 0, 0, 18446744073709551615, 0, false⟩ : LAct)] : List LAct) (M.enterW0 ⟨((M.wideC0 0 rfl).imp fun _ h => SlAt.of_blk (n := 3) (size := 6) h rfl (by decide)), trivial⟩)) (CallsF.func Try.en9 rfl) ?_
    rintro _ w28 ⟨rfl, m⟩
    replace M := M.leaveW0 m
    clear m
    replace M : Mem _ _ _ [blk b26 (.cells #[(Value.int .i64 0), (Value.int .i64 0), (Value.int .u64 0), (Value.int .u64 18446744073709551615), (Value.int .u64 18446744073709551615), (Value.bool false), (Value.int .i64 6), (Value.int .i64 0), (Value.int .u64 0), (Value.int .u64 18446744073709551614), (Value.int .u64 0), (Value.bool false), (Value.int .i64 6), (Value.int .i64 0), (Value.int .u64 0), (Value.int .u64 18446744073709551615), (Value.int .u64 0), (Value.bool false)] 75), blk b23 (.cells #[(Value.int .i64 0), (Value.int .i64 0), (Value.int .u64 0), (Value.int .u64 0), (Value.int .u64 0), (Value.bool false)] 75)] [] _ := M
    refine WL.step (v := (Value.bool true)) rfl (Step.pick (t := true) rfl rfl) ?_
    refine WL.step (v := (Value.bool true)) rfl (Step.move rfl) ?_
    refine WL.callX rfl (law_works  (M.enterW0 trivial)) (CallsF.func Try.en41 rfl) ?_
    rintro _ w29 ⟨rfl, m⟩
    replace M := M.leaveW0 m
    clear m
    replace M : Mem _ _ _ [blk b26 (.cells #[(Value.int .i64 0), (Value.int .i64 0), (Value.int .u64 0), (Value.int .u64 18446744073709551615), (Value.int .u64 18446744073709551615), (Value.bool false), (Value.int .i64 6), (Value.int .i64 0), (Value.int .u64 0), (Value.int .u64 18446744073709551614), (Value.int .u64 0), (Value.bool false), (Value.int .i64 6), (Value.int .i64 0), (Value.int .u64 0), (Value.int .u64 18446744073709551615), (Value.int .u64 0), (Value.bool false)] 75), blk b23 (.cells #[(Value.int .i64 0), (Value.int .i64 0), (Value.int .u64 0), (Value.int .u64 0), (Value.int .u64 0), (Value.bool false)] 75)] [] _ := M
    refine WL.step (v := (Value.bool true)) rfl (Step.pick (t := true) rfl rfl) ?_
    refine WL.step (v := (Value.bool true)) rfl (Step.assign rfl) ?_
    refine WL.nil ?_
    refine W.ret ?_
    refine ⟨.inl rfl, (Value.bool true), ?_, ?_⟩
    · exact ⟨rfl, (Res.r1 (show RV _ _ _ (.tmp 0) (Value.bool true) from by exact rfl))⟩
    refine ⟨?_, M.close [] rfl (by decide) trivial⟩
    rfl
end Go.Proofs
