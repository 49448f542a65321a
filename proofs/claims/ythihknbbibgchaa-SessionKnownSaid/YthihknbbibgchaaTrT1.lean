/- Walks. -/
import Derived.Test.YthihknbbibgchaaTrSesQ
import Derived.Test.YthihknbbibgchaaTrAggS
import Derived.Test.YthihknbbibgchaaTrIns
import Derived.Test.YthihknbbibgchaaTrLate
import Derived.Test.YthihknbbibgchaaChecked
set_option maxRecDepth 100000
set_option linter.all false
namespace Go.Proofs
open Go Tp
theorem Try.un3 : Und Try.prog 3 (.int .i64) := by unfold Und; kernel_rfl
theorem Try.un58 : Und Try.prog 58 (.slice 65) := by unfold Und; kernel_rfl
theorem Try.el65 : Elem Try.prog 65 (Value.agg #[(Value.int .i64 0), (Value.int .i64 0)]) 2 16 := Elem.mk (by kernel_rfl)
theorem Try.mixed : Try.prog.follows .mixedOrders = true := by kernel_rfl

theorem ins_span {G X : Nat → Prop} {w : World} (v : Value) (xs : List Span) (i : Nat) (ub : Nat) (x : Span)  (hi : i ≤ xs.length) (hb : xs.length ≤ 1000000) (M : Mem G X w [own 65 2 v xs.length (xs.flatMap spanE), blk ub (.cells #[(Value.int .i64 x.start), (Value.int .i64 x.fin)] 65)] [] w) : Rets Try.prog 64 #[v, (Value.int .i64 ↑i), (Value.slice (some ⟨ub, 0, none⟩) 1 1)] w fun r w' => ∃ (v' : Value), r = v' ∧ Mem G X w [blk ub (.cells #[(Value.int .i64 x.start), (Value.int .i64 x.fin)] 65), own 65 2 v' ((insL xs i x).length) ((insL xs i x).flatMap spanE)] [] w' := by
  refine Rets.enter 95 _ Try.func64 rfl Try.ntmps64 Try.results64 (by simp) ?_
  have sl1 : IsSl v := SlAt.isSl (own_slAt (Mem.chunk M 0 rfl).inv)
  have hle2 := SlAt.le' (own_slAt (Mem.chunk M 0 rfl).inv)
  refine W.seq' ?_
  refine W.region rfl ?_
  refine WL.step (v := (Value.slice none 0 0)) rfl (Step.assign rfl) ?_
  refine WL.nil ?_
  refine W.seq' ?_
  refine W.region rfl ?_
  refine WL.step (v := v) rfl (Step.move rfl) ?_
  refine WL.step (v := (Value.int .i64 ↑i)) rfl (Step.move rfl) ?_
  have hsh3 := SlAt.shp (own_slAt (M.chunk 0 rfl).inv)
  have hsh3c := hsh3
  obtain ⟨_, _, hsh3l, hsh3m⟩ := hsh3c
  refine WL.step (v := (vSlice 2 i xs.length (vCap v) v)) rfl (Step.sliceFromP (l := i) Try.un58 Try.el65.sized rfl rfl (by omega) hsh3 (by omega)) ?_
  refine WL.nil ?_
  refine W.seq' ?_
  refine W.region rfl ?_
  refine WL.step (v := (Value.slice (some ⟨ub, 0, none⟩) 1 1)) rfl (Step.move rfl) ?_
  refine WL.step (v := (Value.int .i64 1)) rfl (Step.lenS Try.un58 rfl rfl) ?_
  refine WL.step (v := (Value.int .i64 1)) rfl (Step.assign rfl) ?_
  refine WL.nil ?_
  refine W.seq' ?_
  refine W.seq' ?_
  refine W.region rfl ?_
  refine WL.step (v := (Value.int .i64 1)) rfl (Step.move rfl) ?_
  refine WL.step (v := (Value.bool false)) rfl (Step.pure (by kernel_rfl)) ?_
  refine WL.nil ?_
  refine W.cond (t := false) rfl (fun h => by cases h) (fun _ => ?_)
  refine W.skip ?_
  refine W.seq' ?_
  refine W.region rfl ?_
  refine WL.step (v := v) rfl (Step.move rfl) ?_
  refine WL.step (v := (Value.int .i64 ↑xs.length)) rfl (Step.lenSl Try.un58 rfl (own_slAt (M.chunk 0 rfl).inv)) ?_
  refine WL.step (v := (Value.int .i64 ↑xs.length)) rfl (Step.assign rfl) ?_
  refine WL.nil ?_
  refine W.seq' ?_
  refine W.seq' ?_
  refine W.region rfl ?_
  refine WL.step (v := (Value.int .i64 ↑i)) rfl (Step.move rfl) ?_
  refine WL.step (v := (Value.int .i64 ↑xs.length)) rfl (Step.move rfl) ?_
  refine WL.step (v := (Value.bool ((↑i : Int) == (↑xs.length : Int)))) rfl (Step.pure (by kernel_rfl)) ?_
  refine WL.nil ?_
  refine W.cond (t := (↑i : Int) == (↑xs.length : Int)) rfl (fun h4 => ?_) (fun h4 => ?_)
  ·
    have h4p : (↑i : Int) = (↑xs.length : Int) := by simpa using h4
    refine W.seq' ?_
    refine W.region rfl ?_
    refine WL.step (v := v) rfl (Step.move rfl) ?_
    refine WL.step (v := (Value.slice (some ⟨ub, 0, none⟩) 1 1)) rfl (Step.move rfl) ?_
    refine WL.does rfl (M.appendF xs ([x] : List Span) (sv := (Value.slice (some ⟨ub, 0, none⟩) 1 1)) 0 Try.un58 Try.el65 rfl (by decide) rfl rfl rfl (SlAt.of_blk (M.blk 1 rfl) rfl (by decide)) spanE_cel (by have := hb; simp only [maxLen, List.length_nil, List.length_cons, List.length_append]; omega) (by have := hb; (try simp only [List.length_nil, List.length_cons, List.length_append]); omega)) ?_
    rintro v5 w6 M
    replace M : Mem _ _ _ [own 65 2 v5 ((xs ++ ([x] : List Span)).length) ((xs ++ ([x] : List Span)).flatMap spanE), blk ub (.cells #[(Value.int .i64 x.start), (Value.int .i64 x.fin)] 65)] [] _ := M
    have sl7 : IsSl v5 := SlAt.isSl (own_slAt (M.chunk 0 rfl).inv)
    refine WL.step (v := v5) rfl (Step.assign rfl) ?_
    refine WL.nil ?_
    refine W.ret ?_
    refine ⟨.inl rfl, v5, ?_, ?_⟩
    · exact ⟨rfl, (Res.r1 (show RV _ _ _ (.tmp 6) v5 from by exact rfl))⟩
    have e8 : insL xs i x = xs ++ ([x] : List Span) := by
      rw [show i = xs.length by omega, insL_end]
    replace M := M.rechunk 0 (c' := own 65 2 v5 ((insL xs i x).length) ((insL xs i x).flatMap spanE)) rfl (congrArg (fun z => own 65 2 v5 z.length (z.flatMap spanE)) e8.symm)
    replace M : Mem _ _ _ [own 65 2 v5 ((insL xs i x).length) ((insL xs i x).flatMap spanE), blk ub (.cells #[(Value.int .i64 x.start), (Value.int .i64 x.fin)] 65)] [] _ := M
    refine ⟨v5, ?_, M.close [1, 0] rfl (by decide) trivial⟩
    rfl
  ·
    have h4p : ¬ (↑i : Int) = (↑xs.length : Int) := by simpa using h4
    refine W.skip ?_
    refine W.seq' ?_
    refine W.seq' ?_
    refine W.region rfl ?_
    refine WL.step (v := (Value.int .i64 ↑xs.length)) rfl (Step.move rfl) ?_
    refine WL.step (v := (Value.int .i64 1)) rfl (Step.move rfl) ?_
    refine WL.step (v := (Value.int .i64 (↑xs.length + 1))) rfl (Step.add rfl rfl (wrap_i64 (by omega))) ?_
    refine WL.step (v := v) rfl (Step.move rfl) ?_
    refine WL.step (v := (Value.int .i64 (↑(vCap v)))) rfl (Step.capS Try.un58 rfl hsh3) ?_
    refine WL.step (v := (Value.bool (decide ((↑xs.length + 1 : Int) > (↑(vCap v) : Int))))) rfl (Step.pure (by kernel_rfl)) ?_
    refine WL.nil ?_
    refine W.cond (t := decide ((↑xs.length + 1 : Int) > (↑(vCap v) : Int))) rfl (fun h9 => ?_) (fun h9 => ?_)
    ·
      have h9p := of_decide_eq_true h9
      refine W.seq' ?_
      refine W.region rfl ?_
      refine WL.step (v := v) rfl (Step.move rfl) ?_
      refine WL.step (v := (Value.int .i64 ↑i)) rfl (Step.move rfl) ?_
      refine WL.step (v := (vTake i v)) rfl (Step.sliceToP (h := i) Try.un58 Try.el65.sized rfl rfl (by omega) hsh3 (by obtain ⟨_, _, _, _⟩ := hsh3; omega)) ?_
      refine WL.step (v := (Value.int .i64 ↑xs.length)) rfl (Step.move rfl) ?_
      refine WL.step (v := (Value.int .i64 1)) rfl (Step.move rfl) ?_
      refine WL.step (v := (Value.int .i64 (↑xs.length + 1))) rfl (Step.add rfl rfl (wrap_i64 (by omega))) ?_
      refine WL.step (v := (Value.int .i64 ↑i)) rfl (Step.move rfl) ?_
      refine WL.step (v := (Value.int .i64 (↑(xs.length + 1 - i)))) rfl (Step.cast (congrArg (Value.int .i64) (show ((↑xs.length + 1 : Int) - ↑i : Int) = ↑(xs.length + 1 - i) by omega)) (Step.sub rfl rfl (wrap_i64 (by omega)))) ?_
      refine WL.does rfl (M.growZeros (a := i) (k := xs.length + 1 - i) 0 rfl Try.un58 Try.un3 Try.el65 rfl (by decide) rfl rfl (by omega) (by omega) (by omega) (by omega) (by simp only [maxLen]; omega) (by omega)) ?_
      rintro v10 w11 ⟨junk12, hjunk12, -, M⟩
      replace M : Mem _ _ _ [own 65 2 v10 (i + (xs.length + 1 - i)) ((xs.flatMap spanE).take (i * 2) ++ junk12), own 65 2 v xs.length (xs.flatMap spanE), blk ub (.cells #[(Value.int .i64 x.start), (Value.int .i64 x.fin)] 65)] [] _ := M
      replace M := M.rechunk 0 (c' := own 65 2 v10 (xs.length + 1) ((xs.flatMap spanE).take (i * 2) ++ junk12)) rfl (by rw [show i + (xs.length + 1 - i) = xs.length + 1 by omega])
      replace M : Mem _ _ _ [own 65 2 v10 (xs.length + 1) ((xs.flatMap spanE).take (i * 2) ++ junk12), own 65 2 v xs.length (xs.flatMap spanE), blk ub (.cells #[(Value.int .i64 x.start), (Value.int .i64 x.fin)] 65)] [] _ := M
      have sl13 : IsSl v10 := SlAt.isSl (own_slAt (M.chunk 0 rfl).inv)
      refine WL.step (v := v10) rfl (Step.assign rfl) ?_
      refine WL.nil ?_
      refine W.seq' ?_
      refine W.region rfl ?_
      refine WL.step (v := v10) rfl (Step.move rfl) ?_
      refine WL.step (v := (Value.int .i64 ↑i)) rfl (Step.move rfl) ?_
      have hsh14 := SlAt.shp (own_slAt (M.chunk 0 rfl).inv)
      have hsh14c := hsh14
      obtain ⟨_, _, hsh14l, hsh14m⟩ := hsh14c
      refine WL.step (v := (vSlice 2 i (xs.length + 1) (vCap v10) v10)) rfl (Step.sliceFromP (l := i) Try.un58 Try.el65.sized rfl rfl (by omega) hsh14 (by omega)) ?_
      refine WL.step (v := (Value.slice (some ⟨ub, 0, none⟩) 1 1)) rfl (Step.move rfl) ?_
      refine WL.act rfl (M.copyRow (l := i) (m := 1) (news := [(Value.int .i64 x.start), (Value.int .i64 x.fin)]) 0 rfl Try.un58 Try.el65.sized rfl (by first | rfl | omega | (simp; omega)) rfl (SlAt.of_blk (M.blk 2 rfl) rfl (by decide)) (by first | omega | (simp; omega)) (by first | omega | (simp; omega)) (cel_cons rfl (cel_cons rfl cel_nil))) ?_
      rintro w15 ⟨M, -⟩
      replace M : Mem _ _ _ [own 65 2 v10 (xs.length + 1) (splice ((xs.flatMap spanE).take (i * 2) ++ junk12) (i * 2) ([(Value.int .i64 x.start), (Value.int .i64 x.fin)])), own 65 2 v xs.length (xs.flatMap spanE), blk ub (.cells #[(Value.int .i64 x.start), (Value.int .i64 x.fin)] 65)] [] _ := M
      refine WL.nil ?_
      refine W.seq' ?_
      refine W.drawn M [0, 1, 2, 3, 4, 5, 6, 7, 8] [8] [] [own 65 2 v xs.length (xs.flatMap spanE), blk ub (.cells #[(Value.int .i64 x.start), (Value.int .i64 x.fin)] 65)] [] (List.Sublist.cons _ (List.Sublist.cons_cons _ (List.Sublist.cons_cons _ List.Sublist.slnil))) (fun _ h => h) Try.mixed (by kernel_rfl) ?_
      refine TW.pure (v := v10) rfl (by decide) (by decide) rfl (fun w => (Step.move rfl)) ?_
      refine TW.pure (v := (Value.int .i64 ↑i)) rfl (by decide) (by decide) rfl (fun w => (Step.move rfl)) ?_
      refine TW.pure (v := (Value.int .i64 1)) rfl (by decide) (by decide) rfl (fun w => (Step.move rfl)) ?_
      refine TW.pure (v := (Value.int .i64 (↑i + 1))) rfl (by decide) (by decide) rfl (fun w => (Step.add rfl rfl (wrap_i64 (by omega)))) ?_
      refine TW.pure (v := (vSlice 2 (i + 1) (xs.length + 1) (vCap v10) v10)) rfl (by decide) (by decide) rfl (fun w => (Step.sliceFromP (l := i + 1) Try.un58 Try.el65.sized rfl rfl (by omega) hsh14 (by omega))) ?_
      refine TW.pure (v := v) rfl (by decide) (by decide) rfl (fun w => (Step.move rfl)) ?_
      refine TW.pure (v := (Value.int .i64 ↑i)) rfl (by decide) (by decide) rfl (fun w => (Step.move rfl)) ?_
      refine TW.pure (v := (vSlice 2 i xs.length (vCap v) v)) rfl (by decide) (by decide) rfl (fun w => (Step.sliceFromP (l := i) Try.un58 Try.el65.sized rfl rfl (by omega) hsh3 (by omega))) ?_
      refine TW.act (c' := own 65 2 v10 (xs.length + 1) (splice (splice ((xs.flatMap spanE).take (i * 2) ++ junk12) (i * 2) ([(Value.int .i64 x.start), (Value.int .i64 x.fin)])) ((i + 1) * 2) (((xs.drop i).take (xs.length - i)).flatMap spanE))) 0 rfl rfl (by decide) rfl (List.Sublist.cons _ (List.Sublist.cons_cons _ (List.Sublist.cons_cons _ List.Sublist.slnil))) (fun r h => h) (fun A w M => M.copyRow (l := i + 1) (m := ((xs.drop i).take (xs.length - i)).length) (news := ((xs.drop i).take (xs.length - i)).flatMap spanE) 1 rfl Try.un58 Try.el65.sized rfl (by first | rfl | omega | (simp; omega)) rfl (slat_sliceF spanE_len (l := i) (h := xs.length) (own_slAt (M.chunk 2 rfl).inv) (by omega) (by omega) (Nat.le_trans (by omega) (SlAt.cap (own_slAt (M.chunk 2 rfl).inv)).1) (Nat.le_refl _)) (by first | omega | (simp; omega)) (by first | omega | (simp; omega)) (celF spanE_cel _)) ?_
      refine TW.done (fun w16 M => ?_)
      refine W.seq' ?_
      refine W.region rfl ?_
      refine WL.step (v := v10) rfl (Step.move rfl) ?_
      refine WL.step (v := v10) rfl (Step.assign rfl) ?_
      refine WL.nil ?_
      refine W.ret ?_
      refine ⟨.inl rfl, v10, ?_, ?_⟩
      · exact ⟨rfl, (Res.r1 (show RV _ _ _ (.tmp 6) v10 from by exact rfl))⟩
      replace M := M.rechunk 0 (c' := own 65 2 v10 ((insL xs i x).length) ((insL xs i x).flatMap spanE)) rfl (by rw [insL_len xs hi, drop_take_all]; exact congrArg (own 65 2 v10 (xs.length + 1)) (ins_grow spanE_len hi x hjunk12))
      replace M : Mem _ _ _ [own 65 2 v10 ((insL xs i x).length) ((insL xs i x).flatMap spanE), own 65 2 v xs.length (xs.flatMap spanE), blk ub (.cells #[(Value.int .i64 x.start), (Value.int .i64 x.fin)] 65)] [] _ := M
      refine ⟨v10, ?_, M.close [2, 0] rfl (by decide) trivial⟩
      rfl
    ·
      have h9p := of_decide_eq_false h9
      refine W.skip ?_
      refine W.seq' ?_
      refine W.region rfl ?_
      refine WL.step (v := v) rfl (Step.move rfl) ?_
      refine WL.step (v := (Value.int .i64 ↑xs.length)) rfl (Step.move rfl) ?_
      refine WL.step (v := (Value.int .i64 1)) rfl (Step.move rfl) ?_
      refine WL.step (v := (Value.int .i64 (↑xs.length + 1))) rfl (Step.add rfl rfl (wrap_i64 (by omega))) ?_
      refine WL.step (v := (vTake (xs.length + 1) v)) rfl (Step.sliceToP (h := xs.length + 1) Try.un58 Try.el65.sized rfl rfl (by omega) hsh3 (by obtain ⟨_, _, _, _⟩ := hsh3; omega)) ?_
      refine WL.step (v := (vTake (xs.length + 1) v)) rfl (Step.assign rfl) ?_
      refine WL.nil ?_
      refine W.seq' ?_
      refine W.seq' ?_
      refine W.region rfl ?_
      refine WL.step (v := (Value.slice (some ⟨ub, 0, none⟩) 1 1)) rfl (Step.move rfl) ?_
      refine WL.step (v := (vTake (xs.length + 1) v)) rfl (Step.move rfl) ?_
      refine WL.step (v := (Value.int .i64 ↑i)) rfl (Step.move rfl) ?_
      refine WL.step (v := (Value.int .i64 1)) rfl (Step.move rfl) ?_
      refine WL.step (v := (Value.int .i64 (↑i + 1))) rfl (Step.add rfl rfl (wrap_i64 (by omega))) ?_
      refine WL.step (v := (vSlice 2 (i + 1) (xs.length + 1) (vCap (vTake (xs.length + 1) v)) (vTake (xs.length + 1) v))) rfl (Step.sliceFromP (l := i + 1) Try.un58 Try.el65.sized rfl rfl (by omega) (Shp.take hsh3 (k := xs.length + 1) (by obtain ⟨_, _, _, _⟩ := hsh3; omega)) (by omega)) ?_
      refine WL.step (v := (Value.bool false)) rfl (M.overlaps 0 rfl 1 rfl (by decide) Try.un58 Try.el65.sized rfl rfl (by omega) (by decide) (fun args => run_callFunc_extern Try.func83 (by kernel_rfl) (by kernel_rfl) (by kernel_rfl) (by kernel_rfl) args _)) ?_
      refine WL.step (v := (Value.bool true)) rfl (Step.pure (by kernel_rfl)) ?_
      refine WL.nil ?_
      refine W.cond (t := true) rfl (fun _ => ?_) (fun h => by cases h)
      refine W.seq' ?_
      refine W.drawn M [0, 1, 2, 3, 4, 5, 6, 7, 8] [8] [] [blk ub (.cells #[(Value.int .i64 x.start), (Value.int .i64 x.fin)] 65)] [] (List.Sublist.cons _ (List.Sublist.cons_cons _ List.Sublist.slnil)) (fun _ h => h) Try.mixed (by kernel_rfl) ?_
      refine TW.pure (v := (vTake (xs.length + 1) v)) rfl (by decide) (by decide) rfl (fun w => (Step.move rfl)) ?_
      refine TW.pure (v := (Value.int .i64 ↑i)) rfl (by decide) (by decide) rfl (fun w => (Step.move rfl)) ?_
      refine TW.pure (v := (Value.int .i64 1)) rfl (by decide) (by decide) rfl (fun w => (Step.move rfl)) ?_
      refine TW.pure (v := (Value.int .i64 (↑i + 1))) rfl (by decide) (by decide) rfl (fun w => (Step.add rfl rfl (wrap_i64 (by omega)))) ?_
      refine TW.pure (v := (vSlice 2 (i + 1) (xs.length + 1) (vCap (vTake (xs.length + 1) v)) (vTake (xs.length + 1) v))) rfl (by decide) (by decide) rfl (fun w => (Step.sliceFromP (l := i + 1) Try.un58 Try.el65.sized rfl rfl (by omega) (Shp.take hsh3 (k := xs.length + 1) (by obtain ⟨_, _, _, _⟩ := hsh3; omega)) (by omega))) ?_
      refine TW.pure (v := (vTake (xs.length + 1) v)) rfl (by decide) (by decide) rfl (fun w => (Step.move rfl)) ?_
      refine TW.pure (v := (Value.int .i64 ↑i)) rfl (by decide) (by decide) rfl (fun w => (Step.move rfl)) ?_
      refine TW.pure (v := (vSlice 2 i (xs.length + 1) (vCap (vTake (xs.length + 1) v)) (vTake (xs.length + 1) v))) rfl (by decide) (by decide) rfl (fun w => (Step.sliceFromP (l := i) Try.un58 Try.el65.sized rfl rfl (by omega) (Shp.take hsh3 (k := xs.length + 1) (by obtain ⟨_, _, _, _⟩ := hsh3; omega)) (by omega))) ?_
      refine TW.act (c' := own 65 2 (vTake (xs.length + 1) v) ((xs.take (i + 1) ++ xs.drop i).length) ((xs.take (i + 1) ++ xs.drop i).flatMap spanE)) 0 rfl rfl (by decide) rfl (List.Sublist.cons _ (List.Sublist.cons_cons _ List.Sublist.slnil)) (fun r h => h) (fun A w M => M.copyGrow (xs := xs) (k := i) spanE_len 1 rfl Try.un58 Try.el65.sized rfl rfl (by omega) (by omega) spanE_cel) ?_
      refine TW.done (fun w17 M => ?_)
      refine W.seq' ?_
      refine W.region rfl ?_
      refine WL.step (v := (vTake (xs.length + 1) v)) rfl (Step.move rfl) ?_
      refine WL.step (v := (Value.int .i64 ↑i)) rfl (Step.move rfl) ?_
      refine WL.step (v := (vSlice 2 i (xs.length + 1) (vCap (vTake (xs.length + 1) v)) (vTake (xs.length + 1) v))) rfl (Step.sliceFromP (l := i) Try.un58 Try.el65.sized rfl rfl (by omega) (Shp.take hsh3 (k := xs.length + 1) (by obtain ⟨_, _, _, _⟩ := hsh3; omega)) (by omega)) ?_
      refine WL.step (v := (Value.slice (some ⟨ub, 0, none⟩) 1 1)) rfl (Step.move rfl) ?_
      refine WL.act rfl (M.copyRow (l := i) (m := 1) (news := [(Value.int .i64 x.start), (Value.int .i64 x.fin)]) 0 rfl Try.un58 Try.el65.sized rfl (by first | rfl | omega | (simp; omega)) rfl (SlAt.of_blk (M.blk 1 rfl) rfl (by decide)) (by first | omega | (simp; omega)) (by first | omega | (simp; omega)) (cel_cons rfl (cel_cons rfl cel_nil))) ?_
      rintro w18 ⟨M, -⟩
      replace M : Mem _ _ _ [own 65 2 (vTake (xs.length + 1) v) ((xs.take (i + 1) ++ xs.drop i).length) (splice ((xs.take (i + 1) ++ xs.drop i).flatMap spanE) (i * 2) ([(Value.int .i64 x.start), (Value.int .i64 x.fin)])), blk ub (.cells #[(Value.int .i64 x.start), (Value.int .i64 x.fin)] 65)] [] _ := M
      refine WL.nil ?_
      refine W.seq' ?_
      refine W.region rfl ?_
      refine WL.step (v := (vTake (xs.length + 1) v)) rfl (Step.move rfl) ?_
      refine WL.step (v := (vTake (xs.length + 1) v)) rfl (Step.assign rfl) ?_
      refine WL.nil ?_
      refine W.ret ?_
      refine ⟨.inl rfl, (vTake (xs.length + 1) v), ?_, ?_⟩
      · exact ⟨rfl, (Res.r1 (show RV _ _ _ (.tmp 6) (vTake (xs.length + 1) v) from by exact rfl))⟩
      replace M := M.rechunk 0 (c' := own 65 2 (vTake (xs.length + 1) v) ((insL xs i x).length) ((insL xs i x).flatMap spanE)) rfl (by rw [insL_len xs hi, show (xs.take (i + 1) ++ xs.drop i).length = xs.length + 1 by (simp; omega)]; exact congrArg (own 65 2 (vTake (xs.length + 1) v) (xs.length + 1)) ((splice_whole (j := i) spanE_len (by simp; omega) x).trans (congrArg (fun z : List Span => z.flatMap spanE) (ins_room spanE_len (by omega) x))))
      replace M : Mem _ _ _ [own 65 2 (vTake (xs.length + 1) v) ((insL xs i x).length) ((insL xs i x).flatMap spanE), blk ub (.cells #[(Value.int .i64 x.start), (Value.int .i64 x.fin)] 65)] [] _ := M
      refine ⟨(vTake (xs.length + 1) v), ?_, M.close [1, 0] rfl (by decide) trivial⟩
      rfl
end Go.Proofs
