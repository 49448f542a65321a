/- Walks. -/
import Derived.Test.YtlehkjkpgmkbiaaTrG2
set_option maxRecDepth 100000
set_option linter.all false
namespace Go.Proofs
open Go Tp
theorem Try.en72 : Enters Try.prog 72 := fun _ _ => by kernel_rfl
theorem agg_put {G : Nat → Prop} {w : World} (a : Agg5) (v : Int)  (hpi : inJ [a, ⟨1, v, v, v⟩]) (M : Mem G (fun _ => False) w [] [] w) : Rets Try.prog 73 #[(Value.agg #[(Value.int .i64 a.count), (Value.int .i64 a.sum), (Value.int .i64 a.min), (Value.int .i64 a.max)]), (Value.int .i64 v)] w fun r w' => r = (Value.tuple #[(Value.agg #[(Value.int .i64 (((putA a v).1).count)), (Value.int .i64 (((putA a v).1).sum)), (Value.int .i64 (((putA a v).1).min)), (Value.int .i64 (((putA a v).1).max))]), (Value.int .i64 ((putA a v).2))]) ∧ Mem G (fun _ => False) w [] [] w' := by
  refine Rets.enter 21 _ Try.func73 rfl Try.ntmps73 Try.results73 (by simp) ?_
  refine W.seq' ?_
  refine W.region rfl ?_
  refine WL.box (v := (Value.agg #[(Value.int .i64 a.count), (Value.int .i64 a.sum), (Value.int .i64 a.min), (Value.int .i64 a.max)])) (c := #[(Value.int .i64 a.count), (Value.int .i64 a.sum), (Value.int .i64 a.min), (Value.int .i64 a.max)]) M rfl rfl rfl (fun b1 w2 hb1 M => ?_)
  refine WL.alloc (c := #[(Value.int .i64 0), (Value.int .i64 0), (Value.int .i64 0), (Value.int .i64 0)]) M rfl Try.el32.zero rfl (fun b3 w4 hb3 M => ?_)
  refine WL.step (v := (Value.int .i64 0)) rfl (Step.assign rfl) ?_
  refine WL.nil ?_
  refine W.seq' ?_
  refine W.drawn M [0, 1, 2, 3, 4, 5, 6, 7, 8, 9, 10] [2, 4, 9] [3, 8] [blk b3 (.cells #[(Value.int .i64 0), (Value.int .i64 0), (Value.int .i64 0), (Value.int .i64 0)] 32), blk b1 (.cells #[(Value.int .i64 a.count), (Value.int .i64 a.sum), (Value.int .i64 a.min), (Value.int .i64 a.max)] 32)] [] (List.Sublist.cons_cons _ (List.Sublist.cons_cons _ List.Sublist.slnil)) (fun _ h => h) Try.mixed (by kernel_rfl) ?_
  refine TW.read (v := (Value.agg #[(Value.int .i64 a.count), (Value.int .i64 a.sum), (Value.int .i64 a.min), (Value.int .i64 a.max)])) rfl (by decide) (by decide) rfl (fun A w M => (Step.loadN Try.ag32 rfl (M.blk 2 rfl) (Nat.le_of_ble_eq_true rfl) rfl)) ?_
  refine TW.pure (v := (Value.int .i64 v)) rfl (by decide) (by decide) rfl (fun w => (Step.move rfl)) ?_
  refine TW.callX (ι := Unit) (fun jx v_ => v_ = (Value.agg #[(Value.int .i64 1), (Value.int .i64 v), (Value.int .i64 v), (Value.int .i64 v)])) (fun jx => [blk b3 (.cells #[(Value.int .i64 0), (Value.int .i64 0), (Value.int .i64 0), (Value.int .i64 0)] 32), blk b1 (.cells #[(Value.int .i64 a.count), (Value.int .i64 a.sum), (Value.int .i64 a.min), (Value.int .i64 a.max)] 32)]) (fun jx => []) rfl (by decide) rfl (fun jx => (List.Sublist.cons_cons _ (List.Sublist.cons_cons _ List.Sublist.slnil))) (fun jx r h => h) (fun A w M => Rets.mono (agg_one v (M.enterW0 trivial)) (fun v_ w_ ⟨e_, m⟩ => ⟨(), e_, (M.leaveW0 m).sel (L' := [fl A, blk b3 (.cells #[(Value.int .i64 0), (Value.int .i64 0), (Value.int .i64 0), (Value.int .i64 0)] 32), blk b1 (.cells #[(Value.int .i64 a.count), (Value.int .i64 a.sum), (Value.int .i64 a.min), (Value.int .i64 a.max)] 32)]) [0, 1, 2] rfl (by decide), fun b hb => M.keptW0 m (fl A) (List.mem_cons_self ..) b hb⟩)) (fun w => CallsF.func Try.en76 rfl) (fun jx v hp hin => ?_)
  replace hp := hp.symm; subst hp
  clear hin
  change TW _ _ _ _ _ _ _ _ (MemA _ _ _ [blk b3 (.cells #[(Value.int .i64 0), (Value.int .i64 0), (Value.int .i64 0), (Value.int .i64 0)] 32), blk b1 (.cells #[(Value.int .i64 a.count), (Value.int .i64 a.sum), (Value.int .i64 a.min), (Value.int .i64 a.max)] 32)] [])
  refine TW.new (obj := .cells #[(Value.int .i64 a.count), (Value.int .i64 a.sum), (Value.int .i64 a.min), (Value.int .i64 a.max), (Value.int .i64 1), (Value.int .i64 v), (Value.int .i64 v), (Value.int .i64 v)] 32) (fun b => .slice (some ⟨b, 0, none⟩) 2 2) rfl (by decide) (by decide) rfl (fun w => Step.make (by kernel_rfl)) (fun b15 => ?_)
  refine TW.callX (ι := Unit) (fun jx v_ => v_ = (Value.tuple #[(Value.agg #[(Value.int .i64 (((joinL ([a, (⟨1, v, v, v⟩ : Agg5)] : List Agg5)).1).count)), (Value.int .i64 (((joinL ([a, (⟨1, v, v, v⟩ : Agg5)] : List Agg5)).1).sum)), (Value.int .i64 (((joinL ([a, (⟨1, v, v, v⟩ : Agg5)] : List Agg5)).1).min)), (Value.int .i64 (((joinL ([a, (⟨1, v, v, v⟩ : Agg5)] : List Agg5)).1).max))]), (Value.int .i64 ((joinL ([a, (⟨1, v, v, v⟩ : Agg5)] : List Agg5)).2))])) (fun jx => [blk b15 (.cells #[(Value.int .i64 a.count), (Value.int .i64 a.sum), (Value.int .i64 a.min), (Value.int .i64 a.max), (Value.int .i64 1), (Value.int .i64 v), (Value.int .i64 v), (Value.int .i64 v)] 32), blk b3 (.cells #[(Value.int .i64 0), (Value.int .i64 0), (Value.int .i64 0), (Value.int .i64 0)] 32), blk b1 (.cells #[(Value.int .i64 a.count), (Value.int .i64 a.sum), (Value.int .i64 a.min), (Value.int .i64 a.max)] 32)]) (fun jx => []) rfl (by decide) rfl (fun jx => (List.Sublist.cons _ (List.Sublist.cons_cons _ (List.Sublist.cons_cons _ List.Sublist.slnil)))) (fun jx r h => h) (fun A w M => Rets.mono (agg_join (Value.slice (some ⟨b15, 0, none⟩) 2 2) ([a, (⟨1, v, v, v⟩ : Agg5)] : List Agg5) (by first | omega | assumption | decide | (simp only [List.length_nil, List.length_cons, List.length_take, List.length_drop]; omega)) (by first | assumption | decide) (M.enterW0 ⟨((M.wideC0 1 rfl).imp fun _ h => SlAt.of_blk (n := 2) (size := 4) h rfl (by decide)), trivial⟩)) (fun v_ w_ ⟨e_, m⟩ => ⟨(), e_, (M.leaveW0 m).sel (L' := [fl A, blk b15 (.cells #[(Value.int .i64 a.count), (Value.int .i64 a.sum), (Value.int .i64 a.min), (Value.int .i64 a.max), (Value.int .i64 1), (Value.int .i64 v), (Value.int .i64 v), (Value.int .i64 v)] 32), blk b3 (.cells #[(Value.int .i64 0), (Value.int .i64 0), (Value.int .i64 0), (Value.int .i64 0)] 32), blk b1 (.cells #[(Value.int .i64 a.count), (Value.int .i64 a.sum), (Value.int .i64 a.min), (Value.int .i64 a.max)] 32)]) [0, 1, 2, 3] rfl (by decide), fun b hb => M.keptW0 m (fl A) (List.mem_cons_self ..) b hb⟩)) (fun w => CallsF.func Try.en72 rfl) (fun jx v hp hin => ?_)
  replace hp := hp.symm; subst hp
  clear hin
  change TW _ _ _ _ _ _ _ _ (MemA _ _ _ [blk b15 (.cells #[(Value.int .i64 a.count), (Value.int .i64 a.sum), (Value.int .i64 a.min), (Value.int .i64 a.max), (Value.int .i64 1), (Value.int .i64 v), (Value.int .i64 v), (Value.int .i64 v)] 32), blk b3 (.cells #[(Value.int .i64 0), (Value.int .i64 0), (Value.int .i64 0), (Value.int .i64 0)] 32), blk b1 (.cells #[(Value.int .i64 a.count), (Value.int .i64 a.sum), (Value.int .i64 a.min), (Value.int .i64 a.max)] 32)] [])
  refine TW.pure (v := (Value.tuple #[(Value.agg #[(Value.int .i64 (((joinL ([a, (⟨1, v, v, v⟩ : Agg5)] : List Agg5)).1).count)), (Value.int .i64 (((joinL ([a, (⟨1, v, v, v⟩ : Agg5)] : List Agg5)).1).sum)), (Value.int .i64 (((joinL ([a, (⟨1, v, v, v⟩ : Agg5)] : List Agg5)).1).min)), (Value.int .i64 (((joinL ([a, (⟨1, v, v, v⟩ : Agg5)] : List Agg5)).1).max))]), (Value.int .i64 ((joinL ([a, (⟨1, v, v, v⟩ : Agg5)] : List Agg5)).2))])) rfl (by decide) (by decide) rfl (fun w => (Step.move rfl)) ?_
  refine TW.pure (v := (Value.agg #[(Value.int .i64 (((joinL ([a, (⟨1, v, v, v⟩ : Agg5)] : List Agg5)).1).count)), (Value.int .i64 (((joinL ([a, (⟨1, v, v, v⟩ : Agg5)] : List Agg5)).1).sum)), (Value.int .i64 (((joinL ([a, (⟨1, v, v, v⟩ : Agg5)] : List Agg5)).1).min)), (Value.int .i64 (((joinL ([a, (⟨1, v, v, v⟩ : Agg5)] : List Agg5)).1).max))])) rfl (by decide) (by decide) rfl (fun w => (Step.pure (by kernel_rfl))) ?_
  refine TW.pure (v := (Value.int .i64 ((joinL ([a, (⟨1, v, v, v⟩ : Agg5)] : List Agg5)).2))) rfl (by decide) (by decide) rfl (fun w => (Step.pure (by kernel_rfl))) ?_
  refine TW.new (obj := .cells #[(Value.int .i64 0), (Value.int .i64 0), (Value.int .i64 0), (Value.int .i64 0)] 32) (fun b => .pointer (some ⟨b, 0, none⟩)) rfl (by decide) (by decide) rfl (fun w => Step.alloc Try.el32.zero) (fun b16 => ?_)
  refine TW.store (v := (Value.agg #[(Value.int .i64 (((joinL ([a, (⟨1, v, v, v⟩ : Agg5)] : List Agg5)).1).count)), (Value.int .i64 (((joinL ([a, (⟨1, v, v, v⟩ : Agg5)] : List Agg5)).1).sum)), (Value.int .i64 (((joinL ([a, (⟨1, v, v, v⟩ : Agg5)] : List Agg5)).1).min)), (Value.int .i64 (((joinL ([a, (⟨1, v, v, v⟩ : Agg5)] : List Agg5)).1).max))])) (cs := [(Value.int .i64 (((joinL ([a, (⟨1, v, v, v⟩ : Agg5)] : List Agg5)).1).count)), (Value.int .i64 (((joinL ([a, (⟨1, v, v, v⟩ : Agg5)] : List Agg5)).1).sum)), (Value.int .i64 (((joinL ([a, (⟨1, v, v, v⟩ : Agg5)] : List Agg5)).1).min)), (Value.int .i64 (((joinL ([a, (⟨1, v, v, v⟩ : Agg5)] : List Agg5)).1).max))]) (c' := #[(Value.int .i64 (((joinL ([a, (⟨1, v, v, v⟩ : Agg5)] : List Agg5)).1).count)), (Value.int .i64 (((joinL ([a, (⟨1, v, v, v⟩ : Agg5)] : List Agg5)).1).sum)), (Value.int .i64 (((joinL ([a, (⟨1, v, v, v⟩ : Agg5)] : List Agg5)).1).min)), (Value.int .i64 (((joinL ([a, (⟨1, v, v, v⟩ : Agg5)] : List Agg5)).1).max))]) 0 rfl rfl (by decide) rfl Try.el32.sized rfl rfl rfl rfl (Nat.le_of_ble_eq_true rfl) (cel_cons rfl (cel_cons rfl (cel_cons rfl (cel_cons rfl cel_nil)))) rfl rfl (List.Sublist.cons _ (List.Sublist.cons _ (List.Sublist.cons_cons _ (List.Sublist.cons_cons _ List.Sublist.slnil)))) (fun r h => h) ?_
  refine TW.pure (v := (Value.int .i64 ((joinL ([a, (⟨1, v, v, v⟩ : Agg5)] : List Agg5)).2))) rfl (by decide) (by decide) rfl (fun w => (Step.assign rfl)) ?_
  refine TW.done (fun w17 M => ?_)
  refine W.seq' ?_
  refine W.seq' ?_
  refine W.region rfl ?_
  refine WL.step (v := (Value.int .i64 ((joinL ([a, (⟨1, v, v, v⟩ : Agg5)] : List Agg5)).2))) rfl (Step.move rfl) ?_
  refine WL.step (v := (Value.bool (((joinL ([a, (⟨1, v, v, v⟩ : Agg5)] : List Agg5)).2 : Int) != (0 : Int)))) rfl (Step.pure (by kernel_rfl)) ?_
  refine WL.nil ?_
  refine W.cond (t := ((joinL ([a, (⟨1, v, v, v⟩ : Agg5)] : List Agg5)).2 : Int) != (0 : Int)) rfl (fun h18 => ?_) (fun h18 => ?_)
  ·
    have h18p : ¬ ((joinL ([a, (⟨1, v, v, v⟩ : Agg5)] : List Agg5)).2 : Int) = (0 : Int) := by simpa using h18
    refine W.seq' ?_
    refine W.region rfl ?_
    refine WL.step (v := (Value.agg #[(Value.int .i64 a.count), (Value.int .i64 a.sum), (Value.int .i64 a.min), (Value.int .i64 a.max)])) rfl (Step.loadN Try.ag32 rfl (M.blk 3 rfl) (Nat.le_of_ble_eq_true rfl) rfl) ?_
    refine WL.step (v := (Value.int .i64 ((joinL ([a, (⟨1, v, v, v⟩ : Agg5)] : List Agg5)).2))) rfl (Step.move rfl) ?_
    refine WL.store (v := (Value.agg #[(Value.int .i64 a.count), (Value.int .i64 a.sum), (Value.int .i64 a.min), (Value.int .i64 a.max)])) (cs := [(Value.int .i64 a.count), (Value.int .i64 a.sum), (Value.int .i64 a.min), (Value.int .i64 a.max)]) (c' := #[(Value.int .i64 a.count), (Value.int .i64 a.sum), (Value.int .i64 a.min), (Value.int .i64 a.max)]) M 2 rfl rfl Try.el32.sized rfl rfl rfl rfl (Nat.le_of_ble_eq_true rfl) (cel_cons rfl (cel_cons rfl (cel_cons rfl (cel_cons rfl cel_nil)))) rfl rfl (fun w19 M => ?_)
    refine WL.step (v := (Value.int .i64 ((joinL ([a, (⟨1, v, v, v⟩ : Agg5)] : List Agg5)).2))) rfl (Step.assign rfl) ?_
    refine WL.nil ?_
    refine W.ret ?_
    refine ⟨.inl rfl, (Value.tuple #[(Value.agg #[(Value.int .i64 a.count), (Value.int .i64 a.sum), (Value.int .i64 a.min), (Value.int .i64 a.max)]), (Value.int .i64 ((joinL ([a, (⟨1, v, v, v⟩ : Agg5)] : List Agg5)).2))]), ?_, ?_⟩
    · exact ⟨rfl, (Res.r2 (RV.cellN Try.ag32 rfl (M.blk 2 rfl) rfl) (show RV _ _ _ (.tmp 5) (Value.int .i64 ((joinL ([a, (⟨1, v, v, v⟩ : Agg5)] : List Agg5)).2)) from by exact rfl))⟩
    refine ⟨?_, M.close [] rfl (by decide) trivial⟩
    simp only [putA]
    rw [if_neg h18p]; simp [joinL_err h18p]
  ·
    have h18p : ((joinL ([a, (⟨1, v, v, v⟩ : Agg5)] : List Agg5)).2 : Int) = (0 : Int) := by simpa using h18
    refine W.skip ?_
    refine W.seq' ?_
    refine W.region rfl ?_
    refine WL.step (v := (Value.agg #[(Value.int .i64 (((joinL ([a, (⟨1, v, v, v⟩ : Agg5)] : List Agg5)).1).count)), (Value.int .i64 (((joinL ([a, (⟨1, v, v, v⟩ : Agg5)] : List Agg5)).1).sum)), (Value.int .i64 (((joinL ([a, (⟨1, v, v, v⟩ : Agg5)] : List Agg5)).1).min)), (Value.int .i64 (((joinL ([a, (⟨1, v, v, v⟩ : Agg5)] : List Agg5)).1).max))])) rfl (Step.loadN Try.ag32 rfl (M.blk 0 rfl) (Nat.le_of_ble_eq_true rfl) rfl) ?_
    refine WL.store (v := (Value.agg #[(Value.int .i64 (((joinL ([a, (⟨1, v, v, v⟩ : Agg5)] : List Agg5)).1).count)), (Value.int .i64 (((joinL ([a, (⟨1, v, v, v⟩ : Agg5)] : List Agg5)).1).sum)), (Value.int .i64 (((joinL ([a, (⟨1, v, v, v⟩ : Agg5)] : List Agg5)).1).min)), (Value.int .i64 (((joinL ([a, (⟨1, v, v, v⟩ : Agg5)] : List Agg5)).1).max))])) (cs := [(Value.int .i64 (((joinL ([a, (⟨1, v, v, v⟩ : Agg5)] : List Agg5)).1).count)), (Value.int .i64 (((joinL ([a, (⟨1, v, v, v⟩ : Agg5)] : List Agg5)).1).sum)), (Value.int .i64 (((joinL ([a, (⟨1, v, v, v⟩ : Agg5)] : List Agg5)).1).min)), (Value.int .i64 (((joinL ([a, (⟨1, v, v, v⟩ : Agg5)] : List Agg5)).1).max))]) (c' := #[(Value.int .i64 (((joinL ([a, (⟨1, v, v, v⟩ : Agg5)] : List Agg5)).1).count)), (Value.int .i64 (((joinL ([a, (⟨1, v, v, v⟩ : Agg5)] : List Agg5)).1).sum)), (Value.int .i64 (((joinL ([a, (⟨1, v, v, v⟩ : Agg5)] : List Agg5)).1).min)), (Value.int .i64 (((joinL ([a, (⟨1, v, v, v⟩ : Agg5)] : List Agg5)).1).max))]) M 2 rfl rfl Try.el32.sized rfl rfl rfl rfl (Nat.le_of_ble_eq_true rfl) (cel_cons rfl (cel_cons rfl (cel_cons rfl (cel_cons rfl cel_nil)))) rfl rfl (fun w20 M => ?_)
    refine WL.step (v := (Value.int .i64 0)) rfl (Step.assign rfl) ?_
    refine WL.nil ?_
    refine W.ret ?_
    refine ⟨.inl rfl, (Value.tuple #[(Value.agg #[(Value.int .i64 (((joinL ([a, (⟨1, v, v, v⟩ : Agg5)] : List Agg5)).1).count)), (Value.int .i64 (((joinL ([a, (⟨1, v, v, v⟩ : Agg5)] : List Agg5)).1).sum)), (Value.int .i64 (((joinL ([a, (⟨1, v, v, v⟩ : Agg5)] : List Agg5)).1).min)), (Value.int .i64 (((joinL ([a, (⟨1, v, v, v⟩ : Agg5)] : List Agg5)).1).max))]), (Value.int .i64 0)]), ?_, ?_⟩
    · exact ⟨rfl, (Res.r2 (RV.cellN Try.ag32 rfl (M.blk 2 rfl) rfl) (show RV _ _ _ (.tmp 5) (Value.int .i64 0) from by exact rfl))⟩
    refine ⟨?_, M.close [] rfl (by decide) trivial⟩
    simp only [putA]
    rw [if_pos h18p]; simp [h18p]

end Go.Proofs
