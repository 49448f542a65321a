/- Walks. -/
import Derived.Test.YtlehkjkpgmkbiaaTrG2
set_option maxRecDepth 100000
set_option linter.all false
namespace Go.Proofs
open Go Tp
theorem Try.ag203 : Aggr Try.prog 203 4 := ⟨fun _ => by kernel_rfl, fun _ => by kernel_rfl⟩
theorem Try.el203 : Elem Try.prog 203 (Value.agg #[(Value.int .i64 0), (Value.int .i64 0), (Value.int .i64 0), (Value.int .i64 0)]) 4 32 := Elem.mk (by kernel_rfl)
theorem Try.en72 : Enters Try.prog 72 := fun _ _ => by kernel_rfl
theorem Try.en138 : Enters Try.prog 138 := fun _ _ => by kernel_rfl
theorem Try.en139 : Enters Try.prog 139 := fun _ _ => by kernel_rfl
theorem Try.en140 : Enters Try.prog 140 := fun _ _ => by kernel_rfl
theorem Try.en142 : Enters Try.prog 142 := fun _ _ => by kernel_rfl
theorem Try.en143 : Enters Try.prog 143 := fun _ _ => by kernel_rfl
theorem Try.fl203 : (Try.prog.fieldsOf 203).toList = [⟨ "A", 2, 0, false, "", "", 0⟩, ⟨ "B", 2, 1, false, "", "", 8⟩, ⟨ "C", 2, 2, false, "", "", 16⟩, ⟨ "D", 2, 3, false, "", "", 24⟩] := by kernel_rfl
theorem Try.eg203 : Try.prog.eqGuardType Try.prog.depth 203 = false := by kernel_rfl
theorem Try.eq203 (d : Nat) (a0 : Int) (a1 : Int) (a2 : Int) (a3 : Int) (b0 : Int) (b1 : Int) (b2 : Int) (b3 : Int) : ∀ w, (Op.equalIn (d + 2) 203 (Value.agg #[(Value.int .i64 a0), (Value.int .i64 a1), (Value.int .i64 a2), (Value.int .i64 a3)]) (Value.agg #[(Value.int .i64 b0), (Value.int .i64 b1), (Value.int .i64 b2), (Value.int .i64 b3)])).run Try.prog w = .ok (((a0 : Int) == (b0 : Int)) && (((a1 : Int) == (b1 : Int)) && (((a2 : Int) == (b2 : Int)) && (((a3 : Int) == (b3 : Int)) && true)))) w :=
  (eq_struct (by kernel_rfl) (by kernel_rfl) (Try.fl203) (eqF_cons (x := (Value.int .i64 a0)) (y := (Value.int .i64 b0)) (by decide) (fun _ => by kernel_rfl) (fun _ => by kernel_rfl) (fun w => run_equalIn_int w _ _ _ .i64 _ _ (by kernel_rfl)) (eqF_cons (x := (Value.int .i64 a1)) (y := (Value.int .i64 b1)) (by decide) (fun _ => by kernel_rfl) (fun _ => by kernel_rfl) (fun w => run_equalIn_int w _ _ _ .i64 _ _ (by kernel_rfl)) (eqF_cons (x := (Value.int .i64 a2)) (y := (Value.int .i64 b2)) (by decide) (fun _ => by kernel_rfl) (fun _ => by kernel_rfl) (fun w => run_equalIn_int w _ _ _ .i64 _ _ (by kernel_rfl)) (eqF_cons (x := (Value.int .i64 a3)) (y := (Value.int .i64 b3)) (by decide) (fun _ => by kernel_rfl) (fun _ => by kernel_rfl) (fun w => run_equalIn_int w _ _ _ .i64 _ _ (by kernel_rfl)) eqF_nil)))))

theorem agg_put {G : Nat → Prop} {w : World} (a : Agg5) (v : Int)  (hpi : inJ [a, ⟨1, v, v, v⟩]) (M : Mem G (fun _ => False) w [] [] w) : Rets Try.prog 73 #[(Value.agg #[(Value.int .i64 a.count), (Value.int .i64 a.sum), (Value.int .i64 a.min), (Value.int .i64 a.max)]), (Value.int .i64 v)] w fun r w' => r = (Value.tuple #[(Value.agg #[(Value.int .i64 (((putA a v).1).count)), (Value.int .i64 (((putA a v).1).sum)), (Value.int .i64 (((putA a v).1).min)), (Value.int .i64 (((putA a v).1).max))]), (Value.int .i64 ((putA a v).2))]) ∧ Mem G (fun _ => False) w [] [] w' := by
  refine Rets.enter 21 _ Try.func73 rfl Try.ntmps73 Try.results73 (by simp) ?_
  refine W.seq' ?_
  refine W.region rfl ?_
  refine WL.box (v := (Value.agg #[(Value.int .i64 a.count), (Value.int .i64 a.sum), (Value.int .i64 a.min), (Value.int .i64 a.max)])) (c := #[(Value.int .i64 a.count), (Value.int .i64 a.sum), (Value.int .i64 a.min), (Value.int .i64 a.max)]) M rfl rfl rfl (fun b1 w2 hb1 M => ?_)
  refine WL.alloc (c := #[(Value.int .i64 0), (Value.int .i64 0), (Value.int .i64 0), (Value.int .i64 0)]) M rfl Try.el32.zero rfl (fun b3 w4 hb3 M => ?_)
  refine WL.step (v := (Value.int .i64 0)) rfl (Step.assign rfl) ?_
  refine WL.nil ?_
  refine W.seq' ?_
  refine W.drawn M [0, 1, 2, 3, 4, 5, 6, 7, 8, 9, 10] [2, 4, 9] [3, 8] [blk b3 (.cells #[(Value.int .i64 0), (Value.int .i64 0), (Value.int .i64 0), (Value.int .i64 0)] 32), blk b1 (.cells #[(Value.int .i64 a.count), (Value.int .i64 a.sum), (Value.int .i64 a.min), (Value.int .i64 a.max)] 32)] [] (List.Sublist.cons_cons _ (List.Sublist.cons_cons _ List.Sublist.slnil)) (fun _ h => h) Try.mixed (by kernel_rfl) ?_
  refine TW.read (v := (Value.agg #[(Value.int .i64 a.count), (Value.int .i64 a.sum), (Value.int .i64 a.min), (Value.int .i64 a.max)])) rfl (by decide) (by decide) rfl (fun A w M => (Step.loadN Try.ag32 rfl (M.blk 2 rfl) (Nat.le_of_ble_eq_true rfl) rfl)) ?_
  refine TW.pure (v := (Value.int .i64 v)) rfl (by decide) (by decide) rfl (fun w => (Step.move rfl)) ?_
  refine TW.callX (ι := Unit) (fun jx v_ => v_ = (Value.agg #[(Value.int .i64 1), (Value.int .i64 v), (Value.int .i64 v), (Value.int .i64 v)])) (fun jx => [blk b3 (.cells #[(Value.int .i64 0), (Value.int .i64 0), (Value.int .i64 0), (Value.int .i64 0)] 32), blk b1 (.cells #[(Value.int .i64 a.count), (Value.int .i64 a.sum), (Value.int .i64 a.min), (Value.int .i64 a.max)] 32)]) (fun jx => []) rfl (by decide) rfl (fun jx => (List.Sublist.cons_cons _ (List.Sublist.cons_cons _ List.Sublist.slnil))) (fun jx r h => h) (fun A w M => Rets.mono (agg_one v (M.enterW0 trivial)) (fun v_ w_ ⟨e_, m⟩ => ⟨(), e_, (M.leaveW0 m).sel (L' := [fl A, blk b3 (.cells #[(Value.int .i64 0), (Value.int .i64 0), (Value.int .i64 0), (Value.int .i64 0)] 32), blk b1 (.cells #[(Value.int .i64 a.count), (Value.int .i64 a.sum), (Value.int .i64 a.min), (Value.int .i64 a.max)] 32)]) [0, 1, 2] rfl (by decide), fun b hb => M.keptW0 m (fl A) (List.mem_cons_self ..) b hb⟩)) (fun w => CallsF.func Try.en76 rfl) (fun jx v hp hin => ?_)
  replace hp := hp.symm; subst hp
  clear hin
  change TW _ _ _ _ _ _ _ _ (MemA _ _ _ [blk b3 (.cells #[(Value.int .i64 0), (Value.int .i64 0), (Value.int .i64 0), (Value.int .i64 0)] 32), blk b1 (.cells #[(Value.int .i64 a.count), (Value.int .i64 a.sum), (Value.int .i64 a.min), (Value.int .i64 a.max)] 32)] [])
  refine TW.new (obj := .cells #[(Value.int .i64 a.count), (Value.int .i64 a.sum), (Value.int .i64 a.min), (Value.int .i64 a.max), (Value.int .i64 1), (Value.int .i64 v), (Value.int .i64 v), (Value.int .i64 v)] 32) (fun b => .slice (some ⟨b, 0, none⟩) 2 2) rfl (by decide) (by decide) rfl (fun w => Step.make (by kernel_rfl)) (fun b15 => ?_)
  refine TW.callX (ι := Unit) (fun jx v_ => v_ = (Value.tuple #[(Value.agg #[(Value.int .i64 (((joinL ([a, (⟨1, v, v, v⟩ : Agg5)] : List Agg5)).1).count)), (Value.int .i64 (((joinL ([a, (⟨1, v, v, v⟩ : Agg5)] : List Agg5)).1).sum)), (Value.int .i64 (((joinL ([a, (⟨1, v, v, v⟩ : Agg5)] : List Agg5)).1).min)), (Value.int .i64 (((joinL ([a, (⟨1, v, v, v⟩ : Agg5)] : List Agg5)).1).max))]), (Value.int .i64 ((joinL ([a, (⟨1, v, v, v⟩ : Agg5)] : List Agg5)).2))])) (fun jx => [blk b15 (.cells #[(Value.int .i64 a.count), (Value.int .i64 a.sum), (Value.int .i64 a.min), (Value.int .i64 a.max), (Value.int .i64 1), (Value.int .i64 v), (Value.int .i64 v), (Value.int .i64 v)] 32), blk b3 (.cells #[(Value.int .i64 0), (Value.int .i64 0), (Value.int .i64 0), (Value.int .i64 0)] 32), blk b1 (.cells #[(Value.int .i64 a.count), (Value.int .i64 a.sum), (Value.int .i64 a.min), (Value.int .i64 a.max)] 32)]) (fun jx => []) rfl (by decide) rfl (fun jx => (List.Sublist.cons _ (List.Sublist.cons_cons _ (List.Sublist.cons_cons _ List.Sublist.slnil)))) (fun jx r h => h) (fun A w M => Rets.mono (agg_join (Value.slice (some ⟨b15, 0, none⟩) 2 2) ([a, (⟨1, v, v, v⟩ : Agg5)] : List Agg5) (by first | omega | assumption | decide | (simp only [List.length_nil, List.length_cons, List.length_take, List.length_drop]; omega)) (by first | assumption | decide) (M.enterW0 ⟨((M.wideC0 1 rfl).imp fun _ h => SlAt.of_blk (n := 2) (size := 4) h rfl (by decide)), trivial⟩)) (fun v_ w_ ⟨e_, m⟩ => ⟨(), e_, (M.leaveW0 m).sel (L' := [fl A, blk b15 (.cells #[(Value.int .i64 a.count), (Value.int .i64 a.sum), (Value.int .i64 a.min), (Value.int .i64 a.max), (Value.int .i64 1), (Value.int .i64 v), (Value.int .i64 v), (Value.int .i64 v)] 32), blk b3 (.cells #[(Value.int .i64 0), (Value.int .i64 0), (Value.int .i64 0), (Value.int .i64 0)] 32), blk b1 (.cells #[(Value.int .i64 a.count), (Value.int .i64 a.sum), (Value.int .i64 a.min), (Value.int .i64 a.max)] 32)]) [0, 1, 2, 3] rfl (by decide), fun b hb => M.keptW0 m (fl A) (List.mem_cons_self ..) b hb⟩)) (fun w => CallsF.func Try.en72 rfl) (fun jx v hp hin => ?_)
  replace hp := hp.symm; subst hp
  clear hin
  change TW _ _ _ _ _ _ _ _ (MemA _ _ _ [blk b15 (.cells #[(Value.int .i64 a.count), (Value.int .i64 a.sum), (Value.int .i64 a.min), (Value.int .i64 a.max), (Value.int .i64 1), (Value.int .i64 v), (Value.int .i64 v), (Value.int .i64 v)] 32), blk b3 (.cells #[(Value.int .i64 0), (Value.int .i64 0), (Value.int .i64 0), (Value.int .i64 0)] 32), blk b1 (.cells #[(Value.int .i64 a.count), (Value.int .i64 a.sum), (Value.int .i64 a.min), (Value.int .i64 a.max)] 32)] [])
  refine TW.pure (v := (Value.tuple #[(Value.agg #[(Value.int .i64 (((joinL ([a, (⟨1, v, v, v⟩ : Agg5)] : List Agg5)).1).count)), (Value.int .i64 (((joinL ([a, (⟨1, v, v, v⟩ : Agg5)] : List Agg5)).1).sum)), (Value.int .i64 (((joinL ([a, (⟨1, v, v, v⟩ : Agg5)] : List Agg5)).1).min)), (Value.int .i64 (((joinL ([a, (⟨1, v, v, v⟩ : Agg5)] : List Agg5)).1).max))]), (Value.int .i64 ((joinL ([a, (⟨1, v, v, v⟩ : Agg5)] : List Agg5)).2))])) rfl (by decide) (by decide) rfl (fun w => (Step.move rfl)) ?_
  refine TW.pure (v := (Value.agg #[(Value.int .i64 (((joinL ([a, (⟨1, v, v, v⟩ : Agg5)] : List Agg5)).1).count)), (Value.int .i64 (((joinL ([a, (⟨1, v, v, v⟩ : Agg5)] : List Agg5)).1).sum)), (Value.int .i64 (((joinL ([a, (⟨1, v, v, v⟩ : Agg5)] : List Agg5)).1).min)), (Value.int .i64 (((joinL ([a, (⟨1, v, v, v⟩ : Agg5)] : List Agg5)).1).max))])) rfl (by decide) (by decide) rfl (fun w => (Step.pure (by kernel_rfl))) ?_
  refine TW.pure (v := (Value.int .i64 ((joinL ([a, (⟨1, v, v, v⟩ : Agg5)] : List Agg5)).2))) rfl (by decide) (by decide) rfl (fun w => (Step.pure (by kernel_rfl))) ?_
  refine TW.new (obj := .cells #[(Value.int .i64 0), (Value.int .i64 0), (Value.int .i64 0), (Value.int .i64 0)] 32) (fun b => .pointer (some ⟨b, 0, none⟩)) rfl (by decide) (by decide) rfl (fun w => Step.alloc Try.el32.zero) (fun b16 => ?_)
  refine TW.store (v := (Value.agg #[(Value.int .i64 (((joinL ([a, (⟨1, v, v, v⟩ : Agg5)] : List Agg5)).1).count)), (Value.int .i64 (((joinL ([a, (⟨1, v, v, v⟩ : Agg5)] : List Agg5)).1).sum)), (Value.int .i64 (((joinL ([a, (⟨1, v, v, v⟩ : Agg5)] : List Agg5)).1).min)), (Value.int .i64 (((joinL ([a, (⟨1, v, v, v⟩ : Agg5)] : List Agg5)).1).max))])) (cs := [(Value.int .i64 (((joinL ([a, (⟨1, v, v, v⟩ : Agg5)] : List Agg5)).1).count)), (Value.int .i64 (((joinL ([a, (⟨1, v, v, v⟩ : Agg5)] : List Agg5)).1).sum)), (Value.int .i64 (((joinL ([a, (⟨1, v, v, v⟩ : Agg5)] : List Agg5)).1).min)), (Value.int .i64 (((joinL ([a, (⟨1, v, v, v⟩ : Agg5)] : List Agg5)).1).max))]) (c' := #[(Value.int .i64 (((joinL ([a, (⟨1, v, v, v⟩ : Agg5)] : List Agg5)).1).count)), (Value.int .i64 (((joinL ([a, (⟨1, v, v, v⟩ : Agg5)] : List Agg5)).1).sum)), (Value.int .i64 (((joinL ([a, (⟨1, v, v, v⟩ : Agg5)] : List Agg5)).1).min)), (Value.int .i64 (((joinL ([a, (⟨1, v, v, v⟩ : Agg5)] : List Agg5)).1).max))]) 0 rfl rfl (by decide) rfl Try.el32.sized rfl rfl rfl rfl (Nat.le_of_ble_eq_true rfl) (cel_cons rfl (cel_cons rfl (cel_cons rfl (cel_cons rfl cel_nil)))) rfl rfl (List.Sublist.cons _ (List.Sublist.cons _ (List.Sublist.cons_cons _ (List.Sublist.cons_cons _ List.Sublist.slnil)))) (fun r h => h) ?_
  refine TW.pure (v := (Value.int .i64 ((joinL ([a, (⟨1, v, v, v⟩ : Agg5)] : List Agg5)).2))) rfl (by decide) (by decide) rfl (fun w => (Step.assign rfl)) ?_
  refine TW.done (fun w17 M => ?_)
  refine W.seq' ?_
  refine W.seq' ?_
  refine W.region rfl ?_
  refine WL.step (v := (Value.int .i64 ((joinL ([a, (⟨1, v, v, v⟩ : Agg5)] : List Agg5)).2))) rfl (Step.move rfl) ?_
  refine WL.step (v := (Value.bool (((joinL ([a, (⟨1, v, v, v⟩ : Agg5)] : List Agg5)).2 : Int) != (0 : Int)))) rfl (Step.pure (by kernel_rfl)) ?_
  refine WL.nil ?_
  refine W.cond (t := ((joinL ([a, (⟨1, v, v, v⟩ : Agg5)] : List Agg5)).2 : Int) != (0 : Int)) rfl (fun h18 => ?_) (fun h18 => ?_)
  ·
    have h18p : ¬ ((joinL ([a, (⟨1, v, v, v⟩ : Agg5)] : List Agg5)).2 : Int) = (0 : Int) := by simpa using h18
    refine W.seq' ?_
    refine W.region rfl ?_
    refine WL.step (v := (Value.agg #[(Value.int .i64 a.count), (Value.int .i64 a.sum), (Value.int .i64 a.min), (Value.int .i64 a.max)])) rfl (Step.loadN Try.ag32 rfl (M.blk 3 rfl) (Nat.le_of_ble_eq_true rfl) rfl) ?_
    refine WL.step (v := (Value.int .i64 ((joinL ([a, (⟨1, v, v, v⟩ : Agg5)] : List Agg5)).2))) rfl (Step.move rfl) ?_
    refine WL.store (v := (Value.agg #[(Value.int .i64 a.count), (Value.int .i64 a.sum), (Value.int .i64 a.min), (Value.int .i64 a.max)])) (cs := [(Value.int .i64 a.count), (Value.int .i64 a.sum), (Value.int .i64 a.min), (Value.int .i64 a.max)]) (c' := #[(Value.int .i64 a.count), (Value.int .i64 a.sum), (Value.int .i64 a.min), (Value.int .i64 a.max)]) M 2 rfl rfl Try.el32.sized rfl rfl rfl rfl (Nat.le_of_ble_eq_true rfl) (cel_cons rfl (cel_cons rfl (cel_cons rfl (cel_cons rfl cel_nil)))) rfl rfl (fun w19 M => ?_)
    refine WL.step (v := (Value.int .i64 ((joinL ([a, (⟨1, v, v, v⟩ : Agg5)] : List Agg5)).2))) rfl (Step.assign rfl) ?_
    refine WL.nil ?_
    refine W.ret ?_
    refine ⟨.inl rfl, (Value.tuple #[(Value.agg #[(Value.int .i64 a.count), (Value.int .i64 a.sum), (Value.int .i64 a.min), (Value.int .i64 a.max)]), (Value.int .i64 ((joinL ([a, (⟨1, v, v, v⟩ : Agg5)] : List Agg5)).2))]), ?_, ?_⟩
    · exact ⟨rfl, (Res.r2 (RV.cellN Try.ag32 rfl (M.blk 2 rfl) rfl) (show RV _ _ _ (.tmp 5) (Value.int .i64 ((joinL ([a, (⟨1, v, v, v⟩ : Agg5)] : List Agg5)).2)) from by exact rfl))⟩
    refine ⟨?_, M.close [] rfl (by decide) trivial⟩
    simp only [putA]
    rw [if_neg h18p]; simp [joinL_err h18p]
  ·
    have h18p : ((joinL ([a, (⟨1, v, v, v⟩ : Agg5)] : List Agg5)).2 : Int) = (0 : Int) := by simpa using h18
    refine W.skip ?_
    refine W.seq' ?_
    refine W.region rfl ?_
    refine WL.step (v := (Value.agg #[(Value.int .i64 (((joinL ([a, (⟨1, v, v, v⟩ : Agg5)] : List Agg5)).1).count)), (Value.int .i64 (((joinL ([a, (⟨1, v, v, v⟩ : Agg5)] : List Agg5)).1).sum)), (Value.int .i64 (((joinL ([a, (⟨1, v, v, v⟩ : Agg5)] : List Agg5)).1).min)), (Value.int .i64 (((joinL ([a, (⟨1, v, v, v⟩ : Agg5)] : List Agg5)).1).max))])) rfl (Step.loadN Try.ag32 rfl (M.blk 0 rfl) (Nat.le_of_ble_eq_true rfl) rfl) ?_
    refine WL.store (v := (Value.agg #[(Value.int .i64 (((joinL ([a, (⟨1, v, v, v⟩ : Agg5)] : List Agg5)).1).count)), (Value.int .i64 (((joinL ([a, (⟨1, v, v, v⟩ : Agg5)] : List Agg5)).1).sum)), (Value.int .i64 (((joinL ([a, (⟨1, v, v, v⟩ : Agg5)] : List Agg5)).1).min)), (Value.int .i64 (((joinL ([a, (⟨1, v, v, v⟩ : Agg5)] : List Agg5)).1).max))])) (cs := [(Value.int .i64 (((joinL ([a, (⟨1, v, v, v⟩ : Agg5)] : List Agg5)).1).count)), (Value.int .i64 (((joinL ([a, (⟨1, v, v, v⟩ : Agg5)] : List Agg5)).1).sum)), (Value.int .i64 (((joinL ([a, (⟨1, v, v, v⟩ : Agg5)] : List Agg5)).1).min)), (Value.int .i64 (((joinL ([a, (⟨1, v, v, v⟩ : Agg5)] : List Agg5)).1).max))]) (c' := #[(Value.int .i64 (((joinL ([a, (⟨1, v, v, v⟩ : Agg5)] : List Agg5)).1).count)), (Value.int .i64 (((joinL ([a, (⟨1, v, v, v⟩ : Agg5)] : List Agg5)).1).sum)), (Value.int .i64 (((joinL ([a, (⟨1, v, v, v⟩ : Agg5)] : List Agg5)).1).min)), (Value.int .i64 (((joinL ([a, (⟨1, v, v, v⟩ : Agg5)] : List Agg5)).1).max))]) M 2 rfl rfl Try.el32.sized rfl rfl rfl rfl (Nat.le_of_ble_eq_true rfl) (cel_cons rfl (cel_cons rfl (cel_cons rfl (cel_cons rfl cel_nil)))) rfl rfl (fun w20 M => ?_)
    refine WL.step (v := (Value.int .i64 0)) rfl (Step.assign rfl) ?_
    refine WL.nil ?_
    refine W.ret ?_
    refine ⟨.inl rfl, (Value.tuple #[(Value.agg #[(Value.int .i64 (((joinL ([a, (⟨1, v, v, v⟩ : Agg5)] : List Agg5)).1).count)), (Value.int .i64 (((joinL ([a, (⟨1, v, v, v⟩ : Agg5)] : List Agg5)).1).sum)), (Value.int .i64 (((joinL ([a, (⟨1, v, v, v⟩ : Agg5)] : List Agg5)).1).min)), (Value.int .i64 (((joinL ([a, (⟨1, v, v, v⟩ : Agg5)] : List Agg5)).1).max))]), (Value.int .i64 0)]), ?_, ?_⟩
    · exact ⟨rfl, (Res.r2 (RV.cellN Try.ag32 rfl (M.blk 2 rfl) rfl) (show RV _ _ _ (.tmp 5) (Value.int .i64 0) from by exact rfl))⟩
    refine ⟨?_, M.close [] rfl (by decide) trivial⟩
    simp only [putA]
    rw [if_pos h18p]; simp [h18p]

theorem w_settle {G : Nat → Prop} {w : World} (x : Wide)  (hw_ : (-1152921504606846976 ≤ x.a ∧ x.a ≤ 1152921504606846976) ∧ (-1152921504606846976 ≤ x.b ∧ x.b ≤ 1152921504606846976) ∧ (-1152921504606846976 ≤ x.c ∧ x.c ≤ 1152921504606846976) ∧ (-1152921504606846976 ≤ x.d ∧ x.d ≤ 1152921504606846976)) (M : Mem G (fun _ => False) w [] [] w) : Rets Try.prog 142 #[(Value.agg #[(Value.int .i64 x.a), (Value.int .i64 x.b), (Value.int .i64 x.c), (Value.int .i64 x.d)])] w fun r w' => r = (Value.agg #[(Value.int .i64 ((settleW x).a)), (Value.int .i64 ((settleW x).b)), (Value.int .i64 ((settleW x).c)), (Value.int .i64 ((settleW x).d))]) ∧ Mem G (fun _ => False) w [] [] w' := by
  refine Rets.enter 37 _ Try.func142 rfl Try.ntmps142 Try.results142 (by simp) ?_
  refine W.seq' ?_
  refine W.region rfl ?_
  refine WL.box (v := (Value.agg #[(Value.int .i64 x.a), (Value.int .i64 x.b), (Value.int .i64 x.c), (Value.int .i64 x.d)])) (c := #[(Value.int .i64 x.a), (Value.int .i64 x.b), (Value.int .i64 x.c), (Value.int .i64 x.d)]) M rfl rfl rfl (fun b1 w2 hb1 M => ?_)
  refine WL.alloc (c := #[(Value.int .i64 0), (Value.int .i64 0), (Value.int .i64 0), (Value.int .i64 0)]) M rfl Try.el203.zero rfl (fun b3 w4 hb3 M => ?_)
  refine WL.nil ?_
  refine W.seq' ?_
  refine W.region rfl ?_
  refine WL.step (v := (Value.pointer (some ⟨b1, 1, none⟩))) rfl (Step.pure (by kernel_rfl)) ?_
  refine WL.step (v := (Value.int .i64 x.b)) rfl (Step.load1 Try.sc2 rfl ((M.cell 1 rfl 1).trans rfl)) ?_
  refine WL.step (v := (Value.pointer (some ⟨b1, 0, none⟩))) rfl (Step.pure (by kernel_rfl)) ?_
  refine WL.step (v := (Value.int .i64 x.a)) rfl (Step.load1 Try.sc2 rfl ((M.cell 1 rfl 0).trans rfl)) ?_
  refine WL.step (v := (Value.int .i64 ((x.a : Int) / 4294967296))) rfl (Step.shr32 rfl rfl) ?_
  refine WL.step (v := (Value.int .i64 (x.b + ((x.a : Int) / 4294967296)))) rfl (Step.add rfl rfl (wrap_i64 (by omega))) ?_
  refine WL.step (v := (Value.pointer (some ⟨b1, 1, none⟩))) rfl (Step.pure (by kernel_rfl)) ?_
  refine WL.store (v := (Value.int .i64 (x.b + ((x.a : Int) / 4294967296)))) (cs := [(Value.int .i64 (x.b + ((x.a : Int) / 4294967296)))]) (c' := #[(Value.int .i64 x.a), (Value.int .i64 (x.b + ((x.a : Int) / 4294967296))), (Value.int .i64 x.c), (Value.int .i64 x.d)]) M 1 rfl rfl Try.el2.sized rfl rfl rfl rfl (Nat.le_of_ble_eq_true rfl) (cel_cons rfl cel_nil) rfl rfl (fun w5 M => ?_)
  refine WL.nil ?_
  refine W.seq' ?_
  refine W.region rfl ?_
  refine WL.step (v := (Value.pointer (some ⟨b1, 0, none⟩))) rfl (Step.pure (by kernel_rfl)) ?_
  refine WL.step (v := (Value.int .i64 x.a)) rfl (Step.load1 Try.sc2 rfl ((M.cell 1 rfl 0).trans rfl)) ?_
  refine WL.step (v := (Value.int .i64 ((x.a : Int) % 4294967296))) rfl (Step.and32 rfl rfl) ?_
  refine WL.step (v := (Value.pointer (some ⟨b1, 0, none⟩))) rfl (Step.pure (by kernel_rfl)) ?_
  refine WL.store (v := (Value.int .i64 ((x.a : Int) % 4294967296))) (cs := [(Value.int .i64 ((x.a : Int) % 4294967296))]) (c' := #[(Value.int .i64 ((x.a : Int) % 4294967296)), (Value.int .i64 (x.b + ((x.a : Int) / 4294967296))), (Value.int .i64 x.c), (Value.int .i64 x.d)]) M 1 rfl rfl Try.el2.sized rfl rfl rfl rfl (Nat.le_of_ble_eq_true rfl) (cel_cons rfl cel_nil) rfl rfl (fun w6 M => ?_)
  refine WL.nil ?_
  refine W.seq' ?_
  refine W.region rfl ?_
  refine WL.step (v := (Value.pointer (some ⟨b1, 2, none⟩))) rfl (Step.pure (by kernel_rfl)) ?_
  refine WL.step (v := (Value.int .i64 x.c)) rfl (Step.load1 Try.sc2 rfl ((M.cell 1 rfl 2).trans rfl)) ?_
  refine WL.step (v := (Value.pointer (some ⟨b1, 1, none⟩))) rfl (Step.pure (by kernel_rfl)) ?_
  refine WL.step (v := (Value.int .i64 (x.b + ((x.a : Int) / 4294967296)))) rfl (Step.load1 Try.sc2 rfl ((M.cell 1 rfl 1).trans rfl)) ?_
  refine WL.step (v := (Value.int .i64 ((x.b + ((x.a : Int) / 4294967296) : Int) / 4294967296))) rfl (Step.shr32 rfl rfl) ?_
  refine WL.step (v := (Value.int .i64 (x.c + ((x.b + ((x.a : Int) / 4294967296) : Int) / 4294967296)))) rfl (Step.add rfl rfl (wrap_i64 (by omega))) ?_
  refine WL.step (v := (Value.pointer (some ⟨b1, 2, none⟩))) rfl (Step.pure (by kernel_rfl)) ?_
  refine WL.store (v := (Value.int .i64 (x.c + ((x.b + ((x.a : Int) / 4294967296) : Int) / 4294967296)))) (cs := [(Value.int .i64 (x.c + ((x.b + ((x.a : Int) / 4294967296) : Int) / 4294967296)))]) (c' := #[(Value.int .i64 ((x.a : Int) % 4294967296)), (Value.int .i64 (x.b + ((x.a : Int) / 4294967296))), (Value.int .i64 (x.c + ((x.b + ((x.a : Int) / 4294967296) : Int) / 4294967296))), (Value.int .i64 x.d)]) M 1 rfl rfl Try.el2.sized rfl rfl rfl rfl (Nat.le_of_ble_eq_true rfl) (cel_cons rfl cel_nil) rfl rfl (fun w7 M => ?_)
  refine WL.nil ?_
  refine W.seq' ?_
  refine W.region rfl ?_
  refine WL.step (v := (Value.pointer (some ⟨b1, 1, none⟩))) rfl (Step.pure (by kernel_rfl)) ?_
  refine WL.step (v := (Value.int .i64 (x.b + ((x.a : Int) / 4294967296)))) rfl (Step.load1 Try.sc2 rfl ((M.cell 1 rfl 1).trans rfl)) ?_
  refine WL.step (v := (Value.int .i64 ((x.b + ((x.a : Int) / 4294967296) : Int) % 4294967296))) rfl (Step.and32 rfl rfl) ?_
  refine WL.step (v := (Value.pointer (some ⟨b1, 1, none⟩))) rfl (Step.pure (by kernel_rfl)) ?_
  refine WL.store (v := (Value.int .i64 ((x.b + ((x.a : Int) / 4294967296) : Int) % 4294967296))) (cs := [(Value.int .i64 ((x.b + ((x.a : Int) / 4294967296) : Int) % 4294967296))]) (c' := #[(Value.int .i64 ((x.a : Int) % 4294967296)), (Value.int .i64 ((x.b + ((x.a : Int) / 4294967296) : Int) % 4294967296)), (Value.int .i64 (x.c + ((x.b + ((x.a : Int) / 4294967296) : Int) / 4294967296))), (Value.int .i64 x.d)]) M 1 rfl rfl Try.el2.sized rfl rfl rfl rfl (Nat.le_of_ble_eq_true rfl) (cel_cons rfl cel_nil) rfl rfl (fun w8 M => ?_)
  refine WL.nil ?_
  refine W.seq' ?_
  refine W.region rfl ?_
  refine WL.step (v := (Value.pointer (some ⟨b1, 3, none⟩))) rfl (Step.pure (by kernel_rfl)) ?_
  refine WL.step (v := (Value.int .i64 x.d)) rfl (Step.load1 Try.sc2 rfl ((M.cell 1 rfl 3).trans rfl)) ?_
  refine WL.step (v := (Value.pointer (some ⟨b1, 2, none⟩))) rfl (Step.pure (by kernel_rfl)) ?_
  refine WL.step (v := (Value.int .i64 (x.c + ((x.b + ((x.a : Int) / 4294967296) : Int) / 4294967296)))) rfl (Step.load1 Try.sc2 rfl ((M.cell 1 rfl 2).trans rfl)) ?_
  refine WL.step (v := (Value.int .i64 ((x.c + ((x.b + ((x.a : Int) / 4294967296) : Int) / 4294967296) : Int) / 4294967296))) rfl (Step.shr32 rfl rfl) ?_
  refine WL.step (v := (Value.int .i64 (x.d + ((x.c + ((x.b + ((x.a : Int) / 4294967296) : Int) / 4294967296) : Int) / 4294967296)))) rfl (Step.add rfl rfl (wrap_i64 (by omega))) ?_
  refine WL.step (v := (Value.pointer (some ⟨b1, 3, none⟩))) rfl (Step.pure (by kernel_rfl)) ?_
  refine WL.store (v := (Value.int .i64 (x.d + ((x.c + ((x.b + ((x.a : Int) / 4294967296) : Int) / 4294967296) : Int) / 4294967296)))) (cs := [(Value.int .i64 (x.d + ((x.c + ((x.b + ((x.a : Int) / 4294967296) : Int) / 4294967296) : Int) / 4294967296)))]) (c' := #[(Value.int .i64 ((x.a : Int) % 4294967296)), (Value.int .i64 ((x.b + ((x.a : Int) / 4294967296) : Int) % 4294967296)), (Value.int .i64 (x.c + ((x.b + ((x.a : Int) / 4294967296) : Int) / 4294967296))), (Value.int .i64 (x.d + ((x.c + ((x.b + ((x.a : Int) / 4294967296) : Int) / 4294967296) : Int) / 4294967296)))]) M 1 rfl rfl Try.el2.sized rfl rfl rfl rfl (Nat.le_of_ble_eq_true rfl) (cel_cons rfl cel_nil) rfl rfl (fun w9 M => ?_)
  refine WL.nil ?_
  refine W.seq' ?_
  refine W.region rfl ?_
  refine WL.step (v := (Value.pointer (some ⟨b1, 2, none⟩))) rfl (Step.pure (by kernel_rfl)) ?_
  refine WL.step (v := (Value.int .i64 (x.c + ((x.b + ((x.a : Int) / 4294967296) : Int) / 4294967296)))) rfl (Step.load1 Try.sc2 rfl ((M.cell 1 rfl 2).trans rfl)) ?_
  refine WL.step (v := (Value.int .i64 ((x.c + ((x.b + ((x.a : Int) / 4294967296) : Int) / 4294967296) : Int) % 4294967296))) rfl (Step.and32 rfl rfl) ?_
  refine WL.step (v := (Value.pointer (some ⟨b1, 2, none⟩))) rfl (Step.pure (by kernel_rfl)) ?_
  refine WL.store (v := (Value.int .i64 ((x.c + ((x.b + ((x.a : Int) / 4294967296) : Int) / 4294967296) : Int) % 4294967296))) (cs := [(Value.int .i64 ((x.c + ((x.b + ((x.a : Int) / 4294967296) : Int) / 4294967296) : Int) % 4294967296))]) (c' := #[(Value.int .i64 ((x.a : Int) % 4294967296)), (Value.int .i64 ((x.b + ((x.a : Int) / 4294967296) : Int) % 4294967296)), (Value.int .i64 ((x.c + ((x.b + ((x.a : Int) / 4294967296) : Int) / 4294967296) : Int) % 4294967296)), (Value.int .i64 (x.d + ((x.c + ((x.b + ((x.a : Int) / 4294967296) : Int) / 4294967296) : Int) / 4294967296)))]) M 1 rfl rfl Try.el2.sized rfl rfl rfl rfl (Nat.le_of_ble_eq_true rfl) (cel_cons rfl cel_nil) rfl rfl (fun w10 M => ?_)
  refine WL.nil ?_
  refine W.seq' ?_
  refine W.region rfl ?_
  refine WL.step (v := (Value.agg #[(Value.int .i64 ((x.a : Int) % 4294967296)), (Value.int .i64 ((x.b + ((x.a : Int) / 4294967296) : Int) % 4294967296)), (Value.int .i64 ((x.c + ((x.b + ((x.a : Int) / 4294967296) : Int) / 4294967296) : Int) % 4294967296)), (Value.int .i64 (x.d + ((x.c + ((x.b + ((x.a : Int) / 4294967296) : Int) / 4294967296) : Int) / 4294967296)))])) rfl (Step.loadN Try.ag203 rfl (M.blk 1 rfl) (Nat.le_of_ble_eq_true rfl) rfl) ?_
  refine WL.store (v := (Value.agg #[(Value.int .i64 ((x.a : Int) % 4294967296)), (Value.int .i64 ((x.b + ((x.a : Int) / 4294967296) : Int) % 4294967296)), (Value.int .i64 ((x.c + ((x.b + ((x.a : Int) / 4294967296) : Int) / 4294967296) : Int) % 4294967296)), (Value.int .i64 (x.d + ((x.c + ((x.b + ((x.a : Int) / 4294967296) : Int) / 4294967296) : Int) / 4294967296)))])) (cs := [(Value.int .i64 ((x.a : Int) % 4294967296)), (Value.int .i64 ((x.b + ((x.a : Int) / 4294967296) : Int) % 4294967296)), (Value.int .i64 ((x.c + ((x.b + ((x.a : Int) / 4294967296) : Int) / 4294967296) : Int) % 4294967296)), (Value.int .i64 (x.d + ((x.c + ((x.b + ((x.a : Int) / 4294967296) : Int) / 4294967296) : Int) / 4294967296)))]) (c' := #[(Value.int .i64 ((x.a : Int) % 4294967296)), (Value.int .i64 ((x.b + ((x.a : Int) / 4294967296) : Int) % 4294967296)), (Value.int .i64 ((x.c + ((x.b + ((x.a : Int) / 4294967296) : Int) / 4294967296) : Int) % 4294967296)), (Value.int .i64 (x.d + ((x.c + ((x.b + ((x.a : Int) / 4294967296) : Int) / 4294967296) : Int) / 4294967296)))]) M 0 rfl rfl Try.el203.sized rfl rfl rfl rfl (Nat.le_of_ble_eq_true rfl) (cel_cons rfl (cel_cons rfl (cel_cons rfl (cel_cons rfl cel_nil)))) rfl rfl (fun w11 M => ?_)
  refine WL.nil ?_
  refine W.ret ?_
  refine ⟨.inl rfl, (Value.agg #[(Value.int .i64 ((x.a : Int) % 4294967296)), (Value.int .i64 ((x.b + ((x.a : Int) / 4294967296) : Int) % 4294967296)), (Value.int .i64 ((x.c + ((x.b + ((x.a : Int) / 4294967296) : Int) / 4294967296) : Int) % 4294967296)), (Value.int .i64 (x.d + ((x.c + ((x.b + ((x.a : Int) / 4294967296) : Int) / 4294967296) : Int) / 4294967296)))]), ?_, ?_⟩
  · exact ⟨rfl, (Res.r1 (RV.cellN Try.ag203 rfl (M.blk 0 rfl) rfl))⟩
  refine ⟨?_, M.close [] rfl (by decide) trivial⟩
  rfl

theorem w_of {G : Nat → Prop} {w : World} (n : Int)  (hn : in64 n) (M : Mem G (fun _ => False) w [] [] w) : Rets Try.prog 139 #[(Value.int .i64 n)] w fun r w' => r = (Value.agg #[(Value.int .i64 ((ofW n).a)), (Value.int .i64 ((ofW n).b)), (Value.int .i64 ((ofW n).c)), (Value.int .i64 ((ofW n).d))]) ∧ Mem G (fun _ => False) w [] [] w' := by
  refine Rets.enter 9 _ Try.func139 rfl Try.ntmps139 Try.results139 (by simp) ?_
  have hn1 := hn.1
  have hn2 := hn.2
  refine W.seq' ?_
  refine W.region rfl ?_
  refine WL.alloc (c := #[(Value.int .i64 0), (Value.int .i64 0), (Value.int .i64 0), (Value.int .i64 0)]) M rfl Try.el203.zero rfl (fun b1 w2 hb1 M => ?_)
  refine WL.nil ?_
  refine W.seq' ?_
  refine W.region rfl ?_
  refine WL.step (v := (Value.int .i64 n)) rfl (Step.move rfl) ?_
  refine WL.step (v := (Value.int .i64 ((n : Int) % 4294967296))) rfl (Step.and32 rfl rfl) ?_
  refine WL.step (v := (Value.int .i64 n)) rfl (Step.move rfl) ?_
  refine WL.step (v := (Value.int .i64 ((n : Int) / 4294967296))) rfl (Step.shr32 rfl rfl) ?_
  refine WL.step (v := (Value.agg #[(Value.int .i64 ((n : Int) % 4294967296)), (Value.int .i64 ((n : Int) / 4294967296)), (Value.int .i64 0), (Value.int .i64 0)])) rfl (Step.pure (by kernel_rfl)) ?_
  refine WL.callX rfl (w_settle (⟨(n : Int) % 4294967296, (n : Int) / 4294967296, 0, 0⟩ : Wide) (by refine ⟨?_, ?_, ?_, ?_⟩ <;> (first | omega | (dsimp only; omega) | constructor <;> dsimp only <;> omega)) (M.enterW0 trivial)) (CallsF.func Try.en142 rfl) ?_
  rintro _ w3 ⟨rfl, m⟩
  replace M := M.leaveW0 m
  clear m
  replace M : Mem _ _ _ [blk b1 (.cells #[(Value.int .i64 0), (Value.int .i64 0), (Value.int .i64 0), (Value.int .i64 0)] 203)] [] _ := M
  refine WL.store (v := (Value.agg #[(Value.int .i64 ((settleW (⟨(n : Int) % 4294967296, (n : Int) / 4294967296, 0, 0⟩ : Wide)).a)), (Value.int .i64 ((settleW (⟨(n : Int) % 4294967296, (n : Int) / 4294967296, 0, 0⟩ : Wide)).b)), (Value.int .i64 ((settleW (⟨(n : Int) % 4294967296, (n : Int) / 4294967296, 0, 0⟩ : Wide)).c)), (Value.int .i64 ((settleW (⟨(n : Int) % 4294967296, (n : Int) / 4294967296, 0, 0⟩ : Wide)).d))])) (cs := [(Value.int .i64 ((settleW (⟨(n : Int) % 4294967296, (n : Int) / 4294967296, 0, 0⟩ : Wide)).a)), (Value.int .i64 ((settleW (⟨(n : Int) % 4294967296, (n : Int) / 4294967296, 0, 0⟩ : Wide)).b)), (Value.int .i64 ((settleW (⟨(n : Int) % 4294967296, (n : Int) / 4294967296, 0, 0⟩ : Wide)).c)), (Value.int .i64 ((settleW (⟨(n : Int) % 4294967296, (n : Int) / 4294967296, 0, 0⟩ : Wide)).d))]) (c' := #[(Value.int .i64 ((settleW (⟨(n : Int) % 4294967296, (n : Int) / 4294967296, 0, 0⟩ : Wide)).a)), (Value.int .i64 ((settleW (⟨(n : Int) % 4294967296, (n : Int) / 4294967296, 0, 0⟩ : Wide)).b)), (Value.int .i64 ((settleW (⟨(n : Int) % 4294967296, (n : Int) / 4294967296, 0, 0⟩ : Wide)).c)), (Value.int .i64 ((settleW (⟨(n : Int) % 4294967296, (n : Int) / 4294967296, 0, 0⟩ : Wide)).d))]) M 0 rfl rfl Try.el203.sized rfl rfl rfl rfl (Nat.le_of_ble_eq_true rfl) (cel_cons rfl (cel_cons rfl (cel_cons rfl (cel_cons rfl cel_nil)))) rfl rfl (fun w4 M => ?_)
  refine WL.nil ?_
  refine W.ret ?_
  refine ⟨.inl rfl, (Value.agg #[(Value.int .i64 ((settleW (⟨(n : Int) % 4294967296, (n : Int) / 4294967296, 0, 0⟩ : Wide)).a)), (Value.int .i64 ((settleW (⟨(n : Int) % 4294967296, (n : Int) / 4294967296, 0, 0⟩ : Wide)).b)), (Value.int .i64 ((settleW (⟨(n : Int) % 4294967296, (n : Int) / 4294967296, 0, 0⟩ : Wide)).c)), (Value.int .i64 ((settleW (⟨(n : Int) % 4294967296, (n : Int) / 4294967296, 0, 0⟩ : Wide)).d))]), ?_, ?_⟩
  · exact ⟨rfl, (Res.r1 (RV.cellN Try.ag203 rfl (M.blk 0 rfl) rfl))⟩
  refine ⟨?_, M.close [] rfl (by decide) trivial⟩
  rfl

theorem w_plus {G : Nat → Prop} {w : World} (x : Wide) (y : Wide)  (hx : normW x ∧ -1000000 ≤ x.d ∧ x.d ≤ 1000000) (hy : normW y ∧ -1000000 ≤ y.d ∧ y.d ≤ 1000000) (M : Mem G (fun _ => False) w [] [] w) : Rets Try.prog 138 #[(Value.agg #[(Value.int .i64 x.a), (Value.int .i64 x.b), (Value.int .i64 x.c), (Value.int .i64 x.d)]), (Value.agg #[(Value.int .i64 y.a), (Value.int .i64 y.b), (Value.int .i64 y.c), (Value.int .i64 y.d)])] w fun r w' => r = (Value.agg #[(Value.int .i64 ((plusW x y).a)), (Value.int .i64 ((plusW x y).b)), (Value.int .i64 ((plusW x y).c)), (Value.int .i64 ((plusW x y).d))]) ∧ Mem G (fun _ => False) w [] [] w' := by
  refine Rets.enter 27 _ Try.func138 rfl Try.ntmps138 Try.results138 (by simp) ?_
  obtain ⟨⟨hxa, hxb, hxc⟩, hxd⟩ := hx
  obtain ⟨⟨hya, hyb, hyc⟩, hyd⟩ := hy
  refine W.seq' ?_
  refine W.region rfl ?_
  refine WL.box (v := (Value.agg #[(Value.int .i64 x.a), (Value.int .i64 x.b), (Value.int .i64 x.c), (Value.int .i64 x.d)])) (c := #[(Value.int .i64 x.a), (Value.int .i64 x.b), (Value.int .i64 x.c), (Value.int .i64 x.d)]) M rfl rfl rfl (fun b1 w2 hb1 M => ?_)
  refine WL.box (v := (Value.agg #[(Value.int .i64 y.a), (Value.int .i64 y.b), (Value.int .i64 y.c), (Value.int .i64 y.d)])) (c := #[(Value.int .i64 y.a), (Value.int .i64 y.b), (Value.int .i64 y.c), (Value.int .i64 y.d)]) M rfl rfl rfl (fun b3 w4 hb3 M => ?_)
  refine WL.alloc (c := #[(Value.int .i64 0), (Value.int .i64 0), (Value.int .i64 0), (Value.int .i64 0)]) M rfl Try.el203.zero rfl (fun b5 w6 hb5 M => ?_)
  refine WL.nil ?_
  refine W.seq' ?_
  refine W.region rfl ?_
  refine WL.step (v := (Value.pointer (some ⟨b1, 0, none⟩))) rfl (Step.pure (by kernel_rfl)) ?_
  refine WL.step (v := (Value.int .i64 x.a)) rfl (Step.load1 Try.sc2 rfl ((M.cell 2 rfl 0).trans rfl)) ?_
  refine WL.step (v := (Value.pointer (some ⟨b3, 0, none⟩))) rfl (Step.pure (by kernel_rfl)) ?_
  refine WL.step (v := (Value.int .i64 y.a)) rfl (Step.load1 Try.sc2 rfl ((M.cell 1 rfl 0).trans rfl)) ?_
  refine WL.step (v := (Value.int .i64 (x.a + y.a))) rfl (Step.add rfl rfl (wrap_i64 (by omega))) ?_
  refine WL.step (v := (Value.pointer (some ⟨b1, 1, none⟩))) rfl (Step.pure (by kernel_rfl)) ?_
  refine WL.step (v := (Value.int .i64 x.b)) rfl (Step.load1 Try.sc2 rfl ((M.cell 2 rfl 1).trans rfl)) ?_
  refine WL.step (v := (Value.pointer (some ⟨b3, 1, none⟩))) rfl (Step.pure (by kernel_rfl)) ?_
  refine WL.step (v := (Value.int .i64 y.b)) rfl (Step.load1 Try.sc2 rfl ((M.cell 1 rfl 1).trans rfl)) ?_
  refine WL.step (v := (Value.int .i64 (x.b + y.b))) rfl (Step.add rfl rfl (wrap_i64 (by omega))) ?_
  refine WL.step (v := (Value.pointer (some ⟨b1, 2, none⟩))) rfl (Step.pure (by kernel_rfl)) ?_
  refine WL.step (v := (Value.int .i64 x.c)) rfl (Step.load1 Try.sc2 rfl ((M.cell 2 rfl 2).trans rfl)) ?_
  refine WL.step (v := (Value.pointer (some ⟨b3, 2, none⟩))) rfl (Step.pure (by kernel_rfl)) ?_
  refine WL.step (v := (Value.int .i64 y.c)) rfl (Step.load1 Try.sc2 rfl ((M.cell 1 rfl 2).trans rfl)) ?_
  refine WL.step (v := (Value.int .i64 (x.c + y.c))) rfl (Step.add rfl rfl (wrap_i64 (by omega))) ?_
  refine WL.step (v := (Value.pointer (some ⟨b1, 3, none⟩))) rfl (Step.pure (by kernel_rfl)) ?_
  refine WL.step (v := (Value.int .i64 x.d)) rfl (Step.load1 Try.sc2 rfl ((M.cell 2 rfl 3).trans rfl)) ?_
  refine WL.step (v := (Value.pointer (some ⟨b3, 3, none⟩))) rfl (Step.pure (by kernel_rfl)) ?_
  refine WL.step (v := (Value.int .i64 y.d)) rfl (Step.load1 Try.sc2 rfl ((M.cell 1 rfl 3).trans rfl)) ?_
  refine WL.step (v := (Value.int .i64 (x.d + y.d))) rfl (Step.add rfl rfl (wrap_i64 (by omega))) ?_
  refine WL.step (v := (Value.agg #[(Value.int .i64 (x.a + y.a)), (Value.int .i64 (x.b + y.b)), (Value.int .i64 (x.c + y.c)), (Value.int .i64 (x.d + y.d))])) rfl (Step.pure (by kernel_rfl)) ?_
  refine WL.callX rfl (w_settle (⟨x.a + y.a, x.b + y.b, x.c + y.c, x.d + y.d⟩ : Wide) (by refine ⟨?_, ?_, ?_, ?_⟩ <;> (first | omega | (dsimp only; omega) | constructor <;> dsimp only <;> omega)) (M.enterW0 trivial)) (CallsF.func Try.en142 rfl) ?_
  rintro _ w7 ⟨rfl, m⟩
  replace M := M.leaveW0 m
  clear m
  replace M : Mem _ _ _ [blk b5 (.cells #[(Value.int .i64 0), (Value.int .i64 0), (Value.int .i64 0), (Value.int .i64 0)] 203), blk b3 (.cells #[(Value.int .i64 y.a), (Value.int .i64 y.b), (Value.int .i64 y.c), (Value.int .i64 y.d)] 203), blk b1 (.cells #[(Value.int .i64 x.a), (Value.int .i64 x.b), (Value.int .i64 x.c), (Value.int .i64 x.d)] 203)] [] _ := M
  refine WL.store (v := (Value.agg #[(Value.int .i64 ((settleW (⟨x.a + y.a, x.b + y.b, x.c + y.c, x.d + y.d⟩ : Wide)).a)), (Value.int .i64 ((settleW (⟨x.a + y.a, x.b + y.b, x.c + y.c, x.d + y.d⟩ : Wide)).b)), (Value.int .i64 ((settleW (⟨x.a + y.a, x.b + y.b, x.c + y.c, x.d + y.d⟩ : Wide)).c)), (Value.int .i64 ((settleW (⟨x.a + y.a, x.b + y.b, x.c + y.c, x.d + y.d⟩ : Wide)).d))])) (cs := [(Value.int .i64 ((settleW (⟨x.a + y.a, x.b + y.b, x.c + y.c, x.d + y.d⟩ : Wide)).a)), (Value.int .i64 ((settleW (⟨x.a + y.a, x.b + y.b, x.c + y.c, x.d + y.d⟩ : Wide)).b)), (Value.int .i64 ((settleW (⟨x.a + y.a, x.b + y.b, x.c + y.c, x.d + y.d⟩ : Wide)).c)), (Value.int .i64 ((settleW (⟨x.a + y.a, x.b + y.b, x.c + y.c, x.d + y.d⟩ : Wide)).d))]) (c' := #[(Value.int .i64 ((settleW (⟨x.a + y.a, x.b + y.b, x.c + y.c, x.d + y.d⟩ : Wide)).a)), (Value.int .i64 ((settleW (⟨x.a + y.a, x.b + y.b, x.c + y.c, x.d + y.d⟩ : Wide)).b)), (Value.int .i64 ((settleW (⟨x.a + y.a, x.b + y.b, x.c + y.c, x.d + y.d⟩ : Wide)).c)), (Value.int .i64 ((settleW (⟨x.a + y.a, x.b + y.b, x.c + y.c, x.d + y.d⟩ : Wide)).d))]) M 0 rfl rfl Try.el203.sized rfl rfl rfl rfl (Nat.le_of_ble_eq_true rfl) (cel_cons rfl (cel_cons rfl (cel_cons rfl (cel_cons rfl cel_nil)))) rfl rfl (fun w8 M => ?_)
  refine WL.nil ?_
  refine W.ret ?_
  refine ⟨.inl rfl, (Value.agg #[(Value.int .i64 ((settleW (⟨x.a + y.a, x.b + y.b, x.c + y.c, x.d + y.d⟩ : Wide)).a)), (Value.int .i64 ((settleW (⟨x.a + y.a, x.b + y.b, x.c + y.c, x.d + y.d⟩ : Wide)).b)), (Value.int .i64 ((settleW (⟨x.a + y.a, x.b + y.b, x.c + y.c, x.d + y.d⟩ : Wide)).c)), (Value.int .i64 ((settleW (⟨x.a + y.a, x.b + y.b, x.c + y.c, x.d + y.d⟩ : Wide)).d))]), ?_, ?_⟩
  · exact ⟨rfl, (Res.r1 (RV.cellN Try.ag203 rfl (M.blk 0 rfl) rfl))⟩
  refine ⟨?_, M.close [] rfl (by decide) trivial⟩
  rfl

theorem w_back {G : Nat → Prop} {w : World} (x : Wide)  (hx : normW x) (M : Mem G (fun _ => False) w [] [] w) : Rets Try.prog 143 #[(Value.agg #[(Value.int .i64 x.a), (Value.int .i64 x.b), (Value.int .i64 x.c), (Value.int .i64 x.d)])] w fun r w' => r = (Value.tuple #[(Value.int .i64 (joinW x)), (Value.bool (fits (valW x)))]) ∧ Mem G (fun _ => False) w [] [] w' := by
  refine Rets.enter 16 _ Try.func143 rfl Try.ntmps143 Try.results143 (by simp) ?_
  have hxa := hx.a
  refine W.seq' ?_
  refine W.region rfl ?_
  refine WL.box (v := (Value.agg #[(Value.int .i64 x.a), (Value.int .i64 x.b), (Value.int .i64 x.c), (Value.int .i64 x.d)])) (c := #[(Value.int .i64 x.a), (Value.int .i64 x.b), (Value.int .i64 x.c), (Value.int .i64 x.d)]) M rfl rfl rfl (fun b1 w2 hb1 M => ?_)
  refine WL.step (v := (Value.int .i64 0)) rfl (Step.assign rfl) ?_
  refine WL.step (v := (Value.bool false)) rfl (Step.assign rfl) ?_
  refine WL.nil ?_
  refine W.seq' ?_
  refine W.region rfl ?_
  refine WL.step (v := (Value.pointer (some ⟨b1, 1, none⟩))) rfl (Step.pure (by kernel_rfl)) ?_
  refine WL.step (v := (Value.int .i64 x.b)) rfl (Step.load1 Try.sc2 rfl ((M.cell 0 rfl 1).trans rfl)) ?_
  refine WL.step (v := (Value.int .i64 (w64 ((x.b : Int) * 4294967296)))) rfl (Step.shl32 rfl rfl) ?_
  refine WL.step (v := (Value.pointer (some ⟨b1, 0, none⟩))) rfl (Step.pure (by kernel_rfl)) ?_
  refine WL.step (v := (Value.int .i64 x.a)) rfl (Step.load1 Try.sc2 rfl ((M.cell 0 rfl 0).trans rfl)) ?_
  refine WL.step (v := (Value.int .i64 (w64 ((x.b : Int) * 4294967296 + (x.a : Int))))) rfl (Step.or32 rfl rfl (by omega)) ?_
  refine WL.step (v := (Value.int .i64 (w64 ((x.b : Int) * 4294967296 + (x.a : Int))))) rfl (Step.assign rfl) ?_
  refine WL.nil ?_
  refine W.seq' ?_
  refine W.drawn M [0, 1, 2, 3, 4, 5, 6] [2] [] [blk b1 (.cells #[(Value.int .i64 x.a), (Value.int .i64 x.b), (Value.int .i64 x.c), (Value.int .i64 x.d)] 203)] [] (List.Sublist.cons_cons _ List.Sublist.slnil) (fun _ h => h) Try.mixed (by kernel_rfl) ?_
  refine TW.pure (v := (Value.int .i64 (w64 ((x.b : Int) * 4294967296 + (x.a : Int))))) rfl (by decide) (by decide) rfl (fun w => (Step.move rfl)) ?_
  refine TW.pure (v := (Value.int .i64 (w64 ((x.b : Int) * 4294967296 + (x.a : Int))))) rfl (by decide) (by decide) rfl (fun w => (Step.move rfl)) ?_
  refine TW.callX (ι := Unit) (fun jx v_ => v_ = (Value.agg #[(Value.int .i64 ((ofW (w64 ((x.b : Int) * 4294967296 + (x.a : Int)))).a)), (Value.int .i64 ((ofW (w64 ((x.b : Int) * 4294967296 + (x.a : Int)))).b)), (Value.int .i64 ((ofW (w64 ((x.b : Int) * 4294967296 + (x.a : Int)))).c)), (Value.int .i64 ((ofW (w64 ((x.b : Int) * 4294967296 + (x.a : Int)))).d))])) (fun jx => [blk b1 (.cells #[(Value.int .i64 x.a), (Value.int .i64 x.b), (Value.int .i64 x.c), (Value.int .i64 x.d)] 203)]) (fun jx => []) rfl (by decide) rfl (fun jx => (List.Sublist.cons_cons _ List.Sublist.slnil)) (fun jx r h => h) (fun A w M => Rets.mono (w_of (w64 ((x.b : Int) * 4294967296 + (x.a : Int))) (by first | assumption | exact w64_in _) (M.enterW0 trivial)) (fun v_ w_ ⟨e_, m⟩ => ⟨(), e_, (M.leaveW0 m).sel (L' := [fl A, blk b1 (.cells #[(Value.int .i64 x.a), (Value.int .i64 x.b), (Value.int .i64 x.c), (Value.int .i64 x.d)] 203)]) [0, 1] rfl (by decide), fun b hb => M.keptW0 m (fl A) (List.mem_cons_self ..) b hb⟩)) (fun w => CallsF.func Try.en139 rfl) (fun jx v hp hin => ?_)
  replace hp := hp.symm; subst hp
  clear hin
  change TW _ _ _ _ _ _ _ _ (MemA _ _ _ [blk b1 (.cells #[(Value.int .i64 x.a), (Value.int .i64 x.b), (Value.int .i64 x.c), (Value.int .i64 x.d)] 203)] [])
  refine TW.read (v := (Value.agg #[(Value.int .i64 x.a), (Value.int .i64 x.b), (Value.int .i64 x.c), (Value.int .i64 x.d)])) rfl (by decide) (by decide) rfl (fun A w M => (Step.loadN Try.ag203 rfl (M.blk 1 rfl) (Nat.le_of_ble_eq_true rfl) rfl)) ?_
  refine TW.pure (v := (Value.bool (decide ((ofW (w64 ((x.b : Int) * 4294967296 + (x.a : Int)))) = x)))) rfl (by decide) (by decide) rfl (fun w => (Step.cast (congrArg Value.bool (wide_eqB (ofW (w64 ((x.b : Int) * 4294967296 + (x.a : Int)))) x)) (Step.eqAgg Try.eg203 rfl rfl rfl (Try.eq203 9998 ((ofW (w64 ((x.b : Int) * 4294967296 + (x.a : Int)))).a : Int) ((ofW (w64 ((x.b : Int) * 4294967296 + (x.a : Int)))).b : Int) ((ofW (w64 ((x.b : Int) * 4294967296 + (x.a : Int)))).c : Int) ((ofW (w64 ((x.b : Int) * 4294967296 + (x.a : Int)))).d : Int) (x.a : Int) (x.b : Int) (x.c : Int) (x.d : Int))))) ?_
  refine TW.pure (v := (Value.int .i64 (w64 ((x.b : Int) * 4294967296 + (x.a : Int))))) rfl (by decide) (by decide) rfl (fun w => (Step.assign rfl)) ?_
  refine TW.pure (v := (Value.bool (decide ((ofW (w64 ((x.b : Int) * 4294967296 + (x.a : Int)))) = x)))) rfl (by decide) (by decide) rfl (fun w => (Step.assign rfl)) ?_
  refine TW.done (fun w3 M => ?_)
  refine W.ret ?_
  refine ⟨.inl rfl, (Value.tuple #[(Value.int .i64 (w64 ((x.b : Int) * 4294967296 + (x.a : Int)))), (Value.bool (decide ((ofW (w64 ((x.b : Int) * 4294967296 + (x.a : Int)))) = x)))]), ?_, ?_⟩
  · exact ⟨rfl, (Res.r2 (show RV _ _ _ (.tmp 2) (Value.int .i64 (w64 ((x.b : Int) * 4294967296 + (x.a : Int)))) from by exact rfl) (show RV _ _ _ (.tmp 3) (Value.bool (decide ((ofW (w64 ((x.b : Int) * 4294967296 + (x.a : Int)))) = x))) from by exact rfl))⟩
  refine ⟨?_, M.close [] rfl (by decide) trivial⟩
  rw [← back_eq hx]; rfl

theorem w_fit {G : Nat → Prop} {w : World} (x : Wide)  (hx : normW x) (M : Mem G (fun _ => False) w [] [] w) : Rets Try.prog 140 #[(Value.agg #[(Value.int .i64 x.a), (Value.int .i64 x.b), (Value.int .i64 x.c), (Value.int .i64 x.d)])] w fun r w' => r = (Value.tuple #[(Value.int .i64 (if fits (valW x) = true then valW x else 0)), (Value.bool (fits (valW x)))]) ∧ Mem G (fun _ => False) w [] [] w' := by
  refine Rets.enter 14 _ Try.func140 rfl Try.ntmps140 Try.results140 (by simp) ?_
  refine W.seq' ?_
  refine W.region rfl ?_
  refine WL.box (v := (Value.agg #[(Value.int .i64 x.a), (Value.int .i64 x.b), (Value.int .i64 x.c), (Value.int .i64 x.d)])) (c := #[(Value.int .i64 x.a), (Value.int .i64 x.b), (Value.int .i64 x.c), (Value.int .i64 x.d)]) M rfl rfl rfl (fun b1 w2 hb1 M => ?_)
  refine WL.step (v := (Value.int .i64 0)) rfl (Step.assign rfl) ?_
  refine WL.step (v := (Value.bool false)) rfl (Step.assign rfl) ?_
  refine WL.nil ?_
  refine W.seq' ?_
  refine W.region rfl ?_
  refine WL.step (v := (Value.agg #[(Value.int .i64 x.a), (Value.int .i64 x.b), (Value.int .i64 x.c), (Value.int .i64 x.d)])) rfl (Step.loadN Try.ag203 rfl (M.blk 0 rfl) (Nat.le_of_ble_eq_true rfl) rfl) ?_
  refine WL.callX rfl (w_back x (by assumption) (M.enterW0 trivial)) (CallsF.func Try.en143 rfl) ?_
  rintro _ w3 ⟨rfl, m⟩
  replace M := M.leaveW0 m
  clear m
  replace M : Mem _ _ _ [blk b1 (.cells #[(Value.int .i64 x.a), (Value.int .i64 x.b), (Value.int .i64 x.c), (Value.int .i64 x.d)] 203)] [] _ := M
  refine WL.step (v := (Value.tuple #[(Value.int .i64 (joinW x)), (Value.bool (fits (valW x)))])) rfl (Step.move rfl) ?_
  refine WL.step (v := (Value.int .i64 (joinW x))) rfl (Step.pure (by kernel_rfl)) ?_
  refine WL.step (v := (Value.bool (fits (valW x)))) rfl (Step.pure (by kernel_rfl)) ?_
  refine WL.step (v := (Value.int .i64 (joinW x))) rfl (Step.assign rfl) ?_
  refine WL.step (v := (Value.bool (fits (valW x)))) rfl (Step.assign rfl) ?_
  refine WL.nil ?_
  refine W.seq' ?_
  refine W.seq' ?_
  refine W.region rfl ?_
  refine WL.step (v := (Value.bool (fits (valW x)))) rfl (Step.move rfl) ?_
  refine WL.step (v := (Value.bool (!(fits (valW x))))) rfl (Step.pure (by kernel_rfl)) ?_
  refine WL.nil ?_
  refine W.cond (t := !(fits (valW x))) rfl (fun h4 => ?_) (fun h4 => ?_)
  ·
    refine W.seq' ?_
    refine W.region rfl ?_
    refine WL.step (v := (Value.int .i64 0)) rfl (Step.assign rfl) ?_
    refine WL.step (v := (Value.bool false)) rfl (Step.assign rfl) ?_
    refine WL.nil ?_
    refine W.ret ?_
    refine ⟨.inl rfl, (Value.tuple #[(Value.int .i64 0), (Value.bool false)]), ?_, ?_⟩
    · exact ⟨rfl, (Res.r2 (show RV _ _ _ (.tmp 2) (Value.int .i64 0) from by exact rfl) (show RV _ _ _ (.tmp 3) (Value.bool false) from by exact rfl))⟩
    refine ⟨?_, M.close [] rfl (by decide) trivial⟩
    have hfv : fits (valW x) = false := by simpa using h4
    simp [hfv]
  ·
    refine W.skip ?_
    refine W.seq' ?_
    refine W.region rfl ?_
    refine WL.step (v := (Value.int .i64 (joinW x))) rfl (Step.move rfl) ?_
    refine WL.step (v := (Value.int .i64 (joinW x))) rfl (Step.assign rfl) ?_
    refine WL.step (v := (Value.bool true)) rfl (Step.assign rfl) ?_
    refine WL.nil ?_
    refine W.ret ?_
    refine ⟨.inl rfl, (Value.tuple #[(Value.int .i64 (joinW x)), (Value.bool true)]), ?_, ?_⟩
    · exact ⟨rfl, (Res.r2 (show RV _ _ _ (.tmp 2) (Value.int .i64 (joinW x)) from by exact rfl) (show RV _ _ _ (.tmp 3) (Value.bool true) from by exact rfl))⟩
    refine ⟨?_, M.close [] rfl (by decide) trivial⟩
    have hfv : fits (valW x) = true := by simpa using h4
    simp [hfv, join_val hx hfv]

theorem w_sum {G : Nat → Prop} {w : World} (v : Value) (xs : List Int)  (hb : xs.length ≤ 1000000) (hin : ∀ x, x ∈ xs → in64 x) (M : Mem G (fun _ => False) w [] [SlAt 1 v xs.length (xs.flatMap intE)] w) : Rets Try.prog 135 #[v] w fun r w' => r = (Value.tuple #[(Value.int .i64 ((sumV xs).1)), (Value.int .i64 ((sumV xs).2))]) ∧ Mem G (fun _ => False) w [] [] w' := by
  refine Rets.enter 30 _ Try.func135 rfl Try.ntmps135 Try.results135 (by simp) ?_
  have hle1 := SlAt.le' (M.rep 0 rfl)
  have sl2 : IsSl v := SlAt.isSl (Mem.rep M 0 rfl)
  refine W.seq' ?_
  refine W.region rfl ?_
  refine WL.step (v := (Value.int .i64 0)) rfl (Step.assign rfl) ?_
  refine WL.step (v := (Value.int .i64 0)) rfl (Step.assign rfl) ?_
  refine WL.nil ?_
  refine W.seq' ?_
  refine W.region rfl ?_
  refine WL.step (v := (Value.agg #[(Value.int .i64 0), (Value.int .i64 0), (Value.int .i64 0), (Value.int .i64 0)])) rfl (Step.pure (by kernel_rfl)) ?_
  refine WL.alloc (c := #[(Value.int .i64 0), (Value.int .i64 0), (Value.int .i64 0), (Value.int .i64 0)]) M rfl Try.el203.zero rfl (fun b3 w4 hb3 M => ?_)
  refine WL.store (v := (Value.agg #[(Value.int .i64 0), (Value.int .i64 0), (Value.int .i64 0), (Value.int .i64 0)])) (cs := [(Value.int .i64 0), (Value.int .i64 0), (Value.int .i64 0), (Value.int .i64 0)]) (c' := #[(Value.int .i64 0), (Value.int .i64 0), (Value.int .i64 0), (Value.int .i64 0)]) M 0 rfl rfl Try.el203.sized rfl rfl rfl rfl (Nat.le_of_ble_eq_true rfl) (cel_cons rfl (cel_cons rfl (cel_cons rfl (cel_cons rfl cel_nil)))) rfl rfl (fun w5 M => ?_)
  refine WL.nil ?_
  refine W.seq' ?_
  refine W.seq' ?_
  refine W.region rfl ?_
  refine WL.step (v := (Value.int .i64 0)) rfl (Step.assign rfl) ?_
  refine WL.nil ?_
  refine W.block ?_
  replace M := M.rechunk 0 (c' := blk b3 (.cells #[(Value.int .i64 ((⟨0, 0, 0, 0⟩ : Wide).a)), (Value.int .i64 ((⟨0, 0, 0, 0⟩ : Wide).b)), (Value.int .i64 ((⟨0, 0, 0, 0⟩ : Wide).c)), (Value.int .i64 ((⟨0, 0, 0, 0⟩ : Wide).d))] 203)) rfl rfl
  replace M : Mem _ _ _ [blk b3 (.cells #[(Value.int .i64 ((⟨0, 0, 0, 0⟩ : Wide).a)), (Value.int .i64 ((⟨0, 0, 0, 0⟩ : Wide).b)), (Value.int .i64 ((⟨0, 0, 0, 0⟩ : Wide).c)), (Value.int .i64 ((⟨0, 0, 0, 0⟩ : Wide).d))] 203)] [SlAt 1 v xs.length (xs.flatMap intE)] _ := M
  replace M := M.sel (L' := [blk b3 (.cells #[(Value.int .i64 ((⟨0, 0, 0, 0⟩ : Wide).a)), (Value.int .i64 ((⟨0, 0, 0, 0⟩ : Wide).b)), (Value.int .i64 ((⟨0, 0, 0, 0⟩ : Wide).c)), (Value.int .i64 ((⟨0, 0, 0, 0⟩ : Wide).d))] 203)]) [0] rfl (by decide)
  replace M : Mem _ _ _ [blk b3 (.cells #[(Value.int .i64 ((⟨0, 0, 0, 0⟩ : Wide).a)), (Value.int .i64 ((⟨0, 0, 0, 0⟩ : Wide).b)), (Value.int .i64 ((⟨0, 0, 0, 0⟩ : Wide).c)), (Value.int .i64 ((⟨0, 0, 0, 0⟩ : Wide).d))] 203)] [SlAt 1 v xs.length (xs.flatMap intE)] _ := M
  refine W.loop (fun kk ρ w' => ∃ (k_ : Nat) (s_ : Wide), ((k_ ≤ xs.length) ∧ (normW s_ ∧ -(k_ : Int) ≤ s_.d ∧ s_.d ≤ k_) ∧ (valW s_ = sumI (xs.take k_)) ∧ kk = xs.length - k_) ∧ ρ.has [(0, v), (2, (Value.int .i64 0)), (3, (Value.int .i64 0)), (4, (Value.pointer (some ⟨b3, 0, none⟩))), (5, (Value.int .i64 ↑k_))] ∧ Mem G (fun _ => False) w [blk b3 (.cells #[(Value.int .i64 s_.a), (Value.int .i64 s_.b), (Value.int .i64 s_.c), (Value.int .i64 s_.d)] 203)] [SlAt 1 v xs.length (xs.flatMap intE)]  w') _ ⟨0, (⟨0, 0, 0, 0⟩ : Wide), ⟨(Nat.zero_le _), (by refine ⟨⟨?_, ?_, ?_⟩, ?_, ?_⟩ <;> decide), rfl, rfl⟩, ⟨rfl, rfl, rfl, rfl, rfl, rfl, rfl⟩, M⟩ ?_
  rintro _ ρ7 w6 ⟨k_, s_, ⟨hi8, hi9, hi10, rfl⟩, hρ, M⟩
  obtain ⟨ρ7, rfl⟩ := hρ.know
  clear hρ
  obtain ⟨hs1_, hs2_, hs3_⟩ := hi9
  have hs4_ : normW s_ ∧ -1000000 ≤ s_.d ∧ s_.d ≤ 1000000 := ⟨hs1_, by omega, by omega⟩
  refine W.seq' ?_
  refine W.seq' ?_
  refine W.region rfl ?_
  refine WL.step (v := (Value.int .i64 ↑k_)) rfl (Step.move rfl) ?_
  refine WL.step (v := v) rfl (Step.move rfl) ?_
  refine WL.step (v := (Value.int .i64 ↑xs.length)) rfl (Step.lenSl Try.un121 rfl (M.rep 0 rfl)) ?_
  refine WL.step (v := (Value.bool (decide ((↑k_ : Int) < (↑xs.length : Int))))) rfl (Step.pure (by kernel_rfl)) ?_
  refine WL.nil ?_
  refine W.cond (t := decide ((↑k_ : Int) < (↑xs.length : Int))) rfl (fun h11 => ?_) (fun h11 => ?_)
  ·
    have h11p := of_decide_eq_true h11
    refine W.skip ?_
    refine W.seq' ?_
    refine W.block ?_
    obtain ⟨cap13, hb12⟩ := SlAt.base (M.rep 0 rfl) (by omega)
    obtain ⟨x14, hx14⟩ := elem_of_lt (xs := xs) (i := k_) (by omega)
    have hxi_ := hin _ (List.mem_of_getElem? hx14)
    have hxd_ := of_d hxi_
    refine W.drawn M [0, 1, 2, 3, 4, 5, 6, 7] [0, 5, 6, 7] [0, 5, 6] [] [SlAt 1 v xs.length (xs.flatMap intE)] (List.Sublist.cons _ List.Sublist.slnil) (fun _ h => h) Try.mixed (by kernel_rfl) ?_
    refine TW.readP (v := (Value.agg #[(Value.int .i64 s_.a), (Value.int .i64 s_.b), (Value.int .i64 s_.c), (Value.int .i64 s_.d)])) rfl (by decide) (by decide) rfl (fun A w M => (Step.loadN Try.ag203 rfl (M.blk 1 rfl) (Nat.le_of_ble_eq_true rfl) rfl)) ?_
    refine TW.pure (v := v) rfl (by decide) (by decide) rfl (fun w => (Step.move rfl)) ?_
    refine TW.pure (v := (Value.int .i64 ↑k_)) rfl (by decide) (by decide) rfl (fun w => (Step.move rfl)) ?_
    refine TW.pure (v := (Value.pointer (some ⟨(sBlk v), sOff v + k_ * 1, none⟩))) rfl (by decide) (by decide) rfl (fun w => (Step.indexAddr (i := k_) (Try.un121).run Try.el2.sized rfl rfl (by omega) hb12 (by omega))) ?_
    refine TW.read (v := (Value.int .i64 x14)) rfl (by decide) (by decide) rfl (fun A w M => (Step.loadE (k := 0) Try.sc2 (flat_ec (M.rep 0 rfl) hx14 intE_len) (by decide) rfl rfl)) ?_
    refine TW.callQ (v := (Value.agg #[(Value.int .i64 ((ofW x14).a)), (Value.int .i64 ((ofW x14).b)), (Value.int .i64 ((ofW x14).c)), (Value.int .i64 ((ofW x14).d))])) rfl (by decide) (by decide) rfl (fun A w M => Rets.mono (w_of x14 (by first | assumption | exact w64_in _) (M.enterW0 trivial)) (fun v_ w_ ⟨e_, m⟩ => ⟨e_, (M.leaveW0 m).sel (L' := [fl A, blk b3 (.cells #[(Value.int .i64 s_.a), (Value.int .i64 s_.b), (Value.int .i64 s_.c), (Value.int .i64 s_.d)] 203)]) [0, 1] rfl (by decide), fun b hb => M.keptW0 m (fl A) (List.mem_cons_self ..) b hb⟩)) (fun w => CallsF.func Try.en139 rfl) ?_
    refine TW.callQ (v := (Value.agg #[(Value.int .i64 ((plusW s_ (ofW x14)).a)), (Value.int .i64 ((plusW s_ (ofW x14)).b)), (Value.int .i64 ((plusW s_ (ofW x14)).c)), (Value.int .i64 ((plusW s_ (ofW x14)).d))])) rfl (by decide) (by decide) rfl (fun A w M => Rets.mono (w_plus s_ (ofW x14) (by first | assumption | exact ⟨of_norm _, by omega, by omega⟩) (by first | assumption | exact ⟨of_norm _, by omega, by omega⟩) (M.enterW0 trivial)) (fun v_ w_ ⟨e_, m⟩ => ⟨e_, (M.leaveW0 m).sel (L' := [fl A, blk b3 (.cells #[(Value.int .i64 s_.a), (Value.int .i64 s_.b), (Value.int .i64 s_.c), (Value.int .i64 s_.d)] 203)]) [0, 1] rfl (by decide), fun b hb => M.keptW0 m (fl A) (List.mem_cons_self ..) b hb⟩)) (fun w => CallsF.func Try.en138 rfl) ?_
    refine TW.store (v := (Value.agg #[(Value.int .i64 ((plusW s_ (ofW x14)).a)), (Value.int .i64 ((plusW s_ (ofW x14)).b)), (Value.int .i64 ((plusW s_ (ofW x14)).c)), (Value.int .i64 ((plusW s_ (ofW x14)).d))])) (cs := [(Value.int .i64 ((plusW s_ (ofW x14)).a)), (Value.int .i64 ((plusW s_ (ofW x14)).b)), (Value.int .i64 ((plusW s_ (ofW x14)).c)), (Value.int .i64 ((plusW s_ (ofW x14)).d))]) (c' := #[(Value.int .i64 ((plusW s_ (ofW x14)).a)), (Value.int .i64 ((plusW s_ (ofW x14)).b)), (Value.int .i64 ((plusW s_ (ofW x14)).c)), (Value.int .i64 ((plusW s_ (ofW x14)).d))]) 0 rfl rfl (by decide) rfl Try.el203.sized rfl rfl rfl rfl (Nat.le_of_ble_eq_true rfl) (cel_cons rfl (cel_cons rfl (cel_cons rfl (cel_cons rfl cel_nil)))) rfl rfl (List.Sublist.cons _ List.Sublist.slnil) (fun r h => h) ?_
    refine TW.done (fun w17 M => ?_)
    refine W.region rfl ?_
    refine WL.step (v := (Value.int .i64 ↑k_)) rfl (Step.move rfl) ?_
    refine WL.step (v := (Value.int .i64 (↑k_ + 1))) rfl (Step.add rfl rfl (wrap_i64 (by omega))) ?_
    refine WL.step (v := (Value.int .i64 (↑k_ + 1))) rfl (Step.assign rfl) ?_
    refine WL.nil ?_
    have hpd_ := plus_d hs1_ (of_norm x14)
    exact ⟨_, (by omega), k_ + 1, (plusW s_ (ofW x14)), ⟨(by omega), ⟨plus_norm _ _, by omega, by omega⟩, (by rw [plus_val, of_val, sumI_snoc hx14, ← hi10]), rfl⟩, ⟨rfl, rfl, rfl, rfl, rfl, rfl, rfl⟩, M⟩
  ·
    have h11p := of_decide_eq_false h11
    refine W.exit ?_
    refine thn_exit ?_
    refine thn_exit ?_
    refine inBlk_hit ?_
    refine W.seq' ?_
    refine W.region rfl ?_
    refine WL.step (v := (Value.agg #[(Value.int .i64 s_.a), (Value.int .i64 s_.b), (Value.int .i64 s_.c), (Value.int .i64 s_.d)])) rfl (Step.loadN Try.ag203 rfl (M.blk 0 rfl) (Nat.le_of_ble_eq_true rfl) rfl) ?_
    refine WL.callX rfl (w_fit s_ (by assumption) (M.enterW0 trivial)) (CallsF.func Try.en140 rfl) ?_
    rintro _ w18 ⟨rfl, m⟩
    replace M := M.leaveW0 m
    clear m
    replace M : Mem _ _ _ [blk b3 (.cells #[(Value.int .i64 s_.a), (Value.int .i64 s_.b), (Value.int .i64 s_.c), (Value.int .i64 s_.d)] 203)] [SlAt 1 v xs.length (xs.flatMap intE)] _ := M
    refine WL.step (v := (Value.tuple #[(Value.int .i64 (if fits (valW s_) = true then valW s_ else 0)), (Value.bool (fits (valW s_)))])) rfl (Step.move rfl) ?_
    refine WL.step (v := (Value.int .i64 (if fits (valW s_) = true then valW s_ else 0))) rfl (Step.pure (by kernel_rfl)) ?_
    refine WL.step (v := (Value.bool (fits (valW s_)))) rfl (Step.pure (by kernel_rfl)) ?_
    refine WL.step (v := (Value.int .i64 (if fits (valW s_) = true then valW s_ else 0))) rfl (Step.assign rfl) ?_
    refine WL.step (v := (Value.bool (fits (valW s_)))) rfl (Step.assign rfl) ?_
    refine WL.nil ?_
    refine W.seq' ?_
    refine W.seq' ?_
    refine W.region rfl ?_
    refine WL.step (v := (Value.bool (fits (valW s_)))) rfl (Step.move rfl) ?_
    refine WL.step (v := (Value.bool (!(fits (valW s_))))) rfl (Step.pure (by kernel_rfl)) ?_
    refine WL.nil ?_
    refine W.cond (t := !(fits (valW s_))) rfl (fun h19 => ?_) (fun h19 => ?_)
    ·
      refine W.seq' ?_
      refine W.region rfl ?_
      refine WL.step (v := (Value.int .i64 0)) rfl (Step.assign rfl) ?_
      refine WL.step (v := (Value.int .i64 30)) rfl (Step.assign rfl) ?_
      refine WL.nil ?_
      refine W.ret ?_
      refine ⟨.inl rfl, (Value.tuple #[(Value.int .i64 0), (Value.int .i64 30)]), ?_, ?_⟩
      · exact ⟨rfl, (Res.r2 (show RV _ _ _ (.tmp 2) (Value.int .i64 0) from by exact rfl) (show RV _ _ _ (.tmp 3) (Value.int .i64 30) from by exact rfl))⟩
      refine ⟨?_, M.close [] rfl (by decide) trivial⟩
      have hkk : k_ = xs.length := by omega
      have hsv := hi10
      rw [hkk, List.take_length] at hsv
      have hfv : fits (valW s_) = false := by simpa using h19
      rw [hsv] at hfv
      simp [sumV, hfv, hsv]
    ·
      refine W.skip ?_
      refine W.seq' ?_
      refine W.region rfl ?_
      refine WL.step (v := (Value.int .i64 (if fits (valW s_) = true then valW s_ else 0))) rfl (Step.move rfl) ?_
      refine WL.step (v := (Value.int .i64 (if fits (valW s_) = true then valW s_ else 0))) rfl (Step.assign rfl) ?_
      refine WL.step (v := (Value.int .i64 0)) rfl (Step.assign rfl) ?_
      refine WL.nil ?_
      refine W.ret ?_
      refine ⟨.inl rfl, (Value.tuple #[(Value.int .i64 (if fits (valW s_) = true then valW s_ else 0)), (Value.int .i64 0)]), ?_, ?_⟩
      · exact ⟨rfl, (Res.r2 (show RV _ _ _ (.tmp 2) (Value.int .i64 (if fits (valW s_) = true then valW s_ else 0)) from by exact rfl) (show RV _ _ _ (.tmp 3) (Value.int .i64 0) from by exact rfl))⟩
      refine ⟨?_, M.close [] rfl (by decide) trivial⟩
      have hkk : k_ = xs.length := by omega
      have hsv := hi10
      rw [hkk, List.take_length] at hsv
      have hfv : fits (valW s_) = true := by simpa using h19
      rw [hsv] at hfv
      simp [sumV, hfv, hsv]
end Go.Proofs
