/- Walks. -/
import Derived.Test.YtlehkjkpgmkbiaaTrG9
import Derived.Test.YtlehkjkpgmkbiaaTrAggT
set_option maxRecDepth 100000
set_option linter.all false
namespace Go.Proofs
open Go Tp
theorem Try.un132 : Und Try.prog 132 (.slice 9) := by unfold Und; kernel_rfl
theorem Try.el9 : Elem Try.prog 9 (Value.string (⟨#[]⟩)) 1 16 := Elem.mk (by kernel_rfl)
theorem Try.en12 : Enters Try.prog 12 := fun _ _ => by kernel_rfl
theorem Try.en13 : Enters Try.prog 13 := fun _ _ => by kernel_rfl
theorem Try.en74 : Enters Try.prog 74 := fun _ _ => by kernel_rfl
theorem Try.en75 : Enters Try.prog 75 := fun _ _ => by kernel_rfl

set_option maxHeartbeats 4000000 in
theorem law5_known {G : Nat → Prop} {w : World}    (M : Mem G (fun _ => False) w [] [] w) : Rets Try.prog 14 #[] w fun r w' => r = (Value.bool true) ∧ Mem G (fun _ => False) w [] [] w' := by
  refine Rets.enter 130 _ Try.func14 rfl Try.ntmps14 Try.results14 (by simp) ?_
  refine W.seq' ?_
  refine W.region rfl ?_
  refine WL.step (v := (Value.bool false)) rfl (Step.assign rfl) ?_
  refine WL.nil ?_
  refine W.seq' ?_
  refine W.region rfl ?_
  refine WL.new (obj := .cells #[(Value.int .i64 0), (Value.int .i64 1), (Value.int .i64 (-1)), (Value.int .i64 5), (Value.int .i64 9223372036854775807), (Value.int .i64 (-9223372036854775808)), (Value.int .i64 4611686018427387904), (Value.int .i64 (-4611686018427387904))] 2) (fun b => .slice (some ⟨b, 0, none⟩) 8 8) M rfl (fun w => Step.make (by kernel_rfl)) (fun b1 w2 hb1 M => ?_)
  refine WL.step (v := (Value.slice (some ⟨b1, 0, none⟩) 8 8)) rfl (Step.assign rfl) ?_
  refine WL.nil ?_
  refine W.seq' ?_
  refine W.seq' ?_
  refine W.region rfl ?_
  refine WL.step (v := (Value.int .i64 0)) rfl (Step.assign rfl) ?_
  refine WL.nil ?_
  refine W.block ?_
  replace M := M.ownBlk 0 (n := 8) (size := 1) rfl rfl (by decide)
  replace M : Mem _ _ _ [own 2 1 (Value.slice (some ⟨b1, 0, none⟩) 8 8) (([0, 1, (-1), 5, 9223372036854775807, (-9223372036854775808), 4611686018427387904, (-4611686018427387904)] : List Int).length) (([0, 1, (-1), 5, 9223372036854775807, (-9223372036854775808), 4611686018427387904, (-4611686018427387904)] : List Int).flatMap intE)] [] _ := M
  replace M := M.rechunk 0 (c' := own 2 1 (Value.slice (some ⟨b1, 0, none⟩) 8 8) valsL.length (valsL.flatMap intE)) rfl rfl
  replace M : Mem _ _ _ [own 2 1 (Value.slice (some ⟨b1, 0, none⟩) 8 8) valsL.length (valsL.flatMap intE)] [] _ := M
  replace M := M.shareOwn 0 rfl
  replace M : Mem _ _ _ [] [SlAt 1 (Value.slice (some ⟨b1, 0, none⟩) 8 8) valsL.length (valsL.flatMap intE)] _ := M
  refine W.loop (fun kk ρ w' => ∃ (i_ : Nat) (vv_ : Value), ((i_ ≤ 512) ∧ kk = 512 - i_) ∧ ρ.has [(1, vv_), (2, (Value.int .i64 ↑i_))] ∧ Mem G (fun _ => False) w [] [SlAt 1 vv_ valsL.length (valsL.flatMap intE)]  w') _ ⟨0, _, ⟨(by decide), rfl⟩, ⟨rfl, rfl, rfl, rfl⟩, M⟩ ?_
  rintro _ ρ4 w3 ⟨i_, vv_, ⟨hi5, rfl⟩, hρ, M⟩
  obtain ⟨ρ4, rfl⟩ := hρ.know
  clear hρ
  have sl6 : IsSl vv_ := SlAt.isSl (M.rep 0 rfl)
  have hvl_ : valsL.length = 8 := rfl
  refine W.seq' ?_
  refine W.seq' ?_
  refine W.region rfl ?_
  refine WL.step (v := (Value.int .i64 ↑i_)) rfl (Step.move rfl) ?_
  refine WL.step (v := (Value.bool (decide ((↑i_ : Int) < (512 : Int))))) rfl (Step.pure (by kernel_rfl)) ?_
  refine WL.nil ?_
  refine W.cond (t := decide ((↑i_ : Int) < (512 : Int))) rfl (fun h7 => ?_) (fun h7 => ?_)
  ·
    have h7p := of_decide_eq_true h7
    refine W.skip ?_
    refine W.seq' ?_
    refine W.block ?_
    refine W.seq' ?_
    obtain ⟨cap9, hb8⟩ := SlAt.base (M.rep 0 rfl) (by omega)
    obtain ⟨x10, hx10⟩ := elem_of_lt (xs := valsL) (i := (i_) % 8) (by omega)
    have hnhx10 := vals_in _ (List.mem_of_getElem? hx10)
    obtain ⟨x11, hx11⟩ := elem_of_lt (xs := valsL) (i := (((i_) / 8)) % 8) (by omega)
    have hnhx11 := vals_in _ (List.mem_of_getElem? hx11)
    obtain ⟨x12, hx12⟩ := elem_of_lt (xs := valsL) (i := (i_) / 64) (by omega)
    have hnhx12 := vals_in _ (List.mem_of_getElem? hx12)
    refine W.drawn M [0, 1, 2, 3, 4, 5, 6, 7, 8, 9, 10, 11, 12, 13, 14, 15, 16, 17] [] [16] [] [SlAt 1 vv_ valsL.length (valsL.flatMap intE)] List.Sublist.slnil (fun _ h => h) Try.mixed (by kernel_rfl) ?_
    refine TW.pure (v := vv_) rfl (by decide) (by decide) rfl (fun w => (Step.move rfl)) ?_
    refine TW.pure (v := (Value.int .i64 ↑i_)) rfl (by decide) (by decide) rfl (fun w => (Step.move rfl)) ?_
    refine TW.pure (v := (Value.int .i64 (↑((i_) % 8)))) rfl (by decide) (by decide) rfl (fun w => (Step.cast (congrArg (Value.int .i64) (show ((↑i_ : Int) % 8 : Int) = (((i_) % 8 : Nat) : Int) by omega)) (Step.remN rfl rfl (by omega) (by decide)))) ?_
    refine TW.pure (v := (Value.pointer (some ⟨(sBlk vv_), sOff vv_ + ((i_) % 8) * 1, none⟩))) rfl (by decide) (by decide) rfl (fun w => (Step.indexAddr (i := (i_) % 8) (Try.un121).run Try.el2.sized rfl rfl (by omega) hb8 (by omega))) ?_
    refine TW.read (v := (Value.int .i64 x10)) rfl (by decide) (by decide) rfl (fun A w M => (Step.loadE (k := 0) Try.sc2 (flat_ec (M.rep 0 rfl) hx10 intE_len) (by decide) rfl rfl)) ?_
    refine TW.pure (v := vv_) rfl (by decide) (by decide) rfl (fun w => (Step.move rfl)) ?_
    refine TW.pure (v := (Value.int .i64 ↑i_)) rfl (by decide) (by decide) rfl (fun w => (Step.move rfl)) ?_
    refine TW.pure (v := (Value.int .i64 (↑((i_) / 8)))) rfl (by decide) (by decide) rfl (fun w => (Step.cast (congrArg (Value.int .i64) (show ((↑i_ : Int) / 8 : Int) = (((i_) / 8 : Nat) : Int) by omega)) (Step.quoN rfl rfl (by omega) (by decide) (wrap_i64 (by omega))))) ?_
    refine TW.pure (v := (Value.int .i64 (↑((((i_) / 8)) % 8)))) rfl (by decide) (by decide) rfl (fun w => (Step.cast (congrArg (Value.int .i64) (show ((↑((i_) / 8) : Int) % 8 : Int) = (((((i_) / 8)) % 8 : Nat) : Int) by omega)) (Step.remN rfl rfl (by omega) (by decide)))) ?_
    refine TW.pure (v := (Value.pointer (some ⟨(sBlk vv_), sOff vv_ + ((((i_) / 8)) % 8) * 1, none⟩))) rfl (by decide) (by decide) rfl (fun w => (Step.indexAddr (i := (((i_) / 8)) % 8) (Try.un121).run Try.el2.sized rfl rfl (by omega) hb8 (by omega))) ?_
    refine TW.read (v := (Value.int .i64 x11)) rfl (by decide) (by decide) rfl (fun A w M => (Step.loadE (k := 0) Try.sc2 (flat_ec (M.rep 0 rfl) hx11 intE_len) (by decide) rfl rfl)) ?_
    refine TW.pure (v := vv_) rfl (by decide) (by decide) rfl (fun w => (Step.move rfl)) ?_
    refine TW.pure (v := (Value.int .i64 ↑i_)) rfl (by decide) (by decide) rfl (fun w => (Step.move rfl)) ?_
    refine TW.pure (v := (Value.int .i64 (↑((i_) / 64)))) rfl (by decide) (by decide) rfl (fun w => (Step.cast (congrArg (Value.int .i64) (show ((↑i_ : Int) / 64 : Int) = (((i_) / 64 : Nat) : Int) by omega)) (Step.quoN rfl rfl (by omega) (by decide) (wrap_i64 (by omega))))) ?_
    refine TW.pure (v := (Value.pointer (some ⟨(sBlk vv_), sOff vv_ + ((i_) / 64) * 1, none⟩))) rfl (by decide) (by decide) rfl (fun w => (Step.indexAddr (i := (i_) / 64) (Try.un121).run Try.el2.sized rfl rfl (by omega) hb8 (by omega))) ?_
    refine TW.read (v := (Value.int .i64 x12)) rfl (by decide) (by decide) rfl (fun A w M => (Step.loadE (k := 0) Try.sc2 (flat_ec (M.rep 0 rfl) hx12 intE_len) (by decide) rfl rfl)) ?_
    refine TW.new (obj := .cells #[(Value.int .i64 x10), (Value.int .i64 x11), (Value.int .i64 x12)] 2) (fun b => .slice (some ⟨b, 0, none⟩) 3 3) rfl (by decide) (by decide) rfl (fun w => Step.make (by kernel_rfl)) (fun b17 => ?_)
    refine TW.pure (v := (Value.slice (some ⟨b17, 0, none⟩) 3 3)) rfl (by decide) (by decide) rfl (fun w => (Step.assign rfl)) ?_
    refine TW.done (fun w18 M => ?_)
    refine W.seq' ?_
    replace M := M.ownBlk 0 (n := 3) (size := 1) rfl rfl (by decide)
    replace M : Mem _ _ _ [own 2 1 (Value.slice (some ⟨b17, 0, none⟩) 3 3) (([x10, x11, x12] : List Int).length) (([x10, x11, x12] : List Int).flatMap intE)] [SlAt 1 vv_ valsL.length (valsL.flatMap intE)] _ := M
    obtain ⟨cap20, hb19⟩ := SlAt.base (n := 3) (own_slAt (M.chunk 0 rfl).inv) (by decide)
    obtain ⟨x21, hx21⟩ := elem_of_lt (xs := ([x10, x11, x12] : List Int)) (i := (i_) % 3) (by simp only [List.length_cons, List.length_nil]; omega)
    refine W.drawn M [0, 1, 2, 3, 4, 5, 6, 7, 8, 9, 10, 11, 12, 13, 14, 15, 16] [16] [15] [own 2 1 (Value.slice (some ⟨b17, 0, none⟩) 3 3) (([x10, x11, x12] : List Int).length) (([x10, x11, x12] : List Int).flatMap intE)] [SlAt 1 vv_ valsL.length (valsL.flatMap intE)] (List.Sublist.cons_cons _ List.Sublist.slnil) (fun _ h => h) Try.mixed (by kernel_rfl) ?_
    refine TW.pure (v := (Value.slice (some ⟨b17, 0, none⟩) 3 3)) rfl (by decide) (by decide) rfl (fun w => (Step.move rfl)) ?_
    refine TW.pure (v := (Value.pointer (some ⟨(sBlk (Value.slice (some ⟨b17, 0, none⟩) 3 3)), sOff (Value.slice (some ⟨b17, 0, none⟩) 3 3) + 0 * 1, none⟩))) rfl (by decide) (by decide) rfl (fun w => (Step.indexAddr (i := 0) (Try.un121).run Try.el2.sized rfl rfl rfl hb19 (by omega))) ?_
    refine TW.read (v := (Value.int .i64 x10)) rfl (by decide) (by decide) rfl (fun A w M => (Step.loadE (k := 0) Try.sc2 (flat_ec (i := 0) (x := x10) (own_slAt (M.chunk 1 rfl).inv) rfl intE_len) (by decide) rfl rfl)) ?_
    refine TW.pure (v := (Value.slice (some ⟨b17, 0, none⟩) 3 3)) rfl (by decide) (by decide) rfl (fun w => (Step.move rfl)) ?_
    refine TW.pure (v := (Value.pointer (some ⟨(sBlk (Value.slice (some ⟨b17, 0, none⟩) 3 3)), sOff (Value.slice (some ⟨b17, 0, none⟩) 3 3) + 1 * 1, none⟩))) rfl (by decide) (by decide) rfl (fun w => (Step.indexAddr (i := 1) (Try.un121).run Try.el2.sized rfl rfl rfl hb19 (by omega))) ?_
    refine TW.read (v := (Value.int .i64 x11)) rfl (by decide) (by decide) rfl (fun A w M => (Step.loadE (k := 0) Try.sc2 (flat_ec (i := 1) (x := x11) (own_slAt (M.chunk 1 rfl).inv) rfl intE_len) (by decide) rfl rfl)) ?_
    refine TW.pure (v := (Value.slice (some ⟨b17, 0, none⟩) 3 3)) rfl (by decide) (by decide) rfl (fun w => (Step.move rfl)) ?_
    refine TW.pure (v := (Value.pointer (some ⟨(sBlk (Value.slice (some ⟨b17, 0, none⟩) 3 3)), sOff (Value.slice (some ⟨b17, 0, none⟩) 3 3) + 2 * 1, none⟩))) rfl (by decide) (by decide) rfl (fun w => (Step.indexAddr (i := 2) (Try.un121).run Try.el2.sized rfl rfl rfl hb19 (by omega))) ?_
    refine TW.read (v := (Value.int .i64 x12)) rfl (by decide) (by decide) rfl (fun A w M => (Step.loadE (k := 0) Try.sc2 (flat_ec (i := 2) (x := x12) (own_slAt (M.chunk 1 rfl).inv) rfl intE_len) (by decide) rfl rfl)) ?_
    refine TW.pure (v := (Value.slice (some ⟨b17, 0, none⟩) 3 3)) rfl (by decide) (by decide) rfl (fun w => (Step.move rfl)) ?_
    refine TW.pure (v := (Value.int .i64 ↑i_)) rfl (by decide) (by decide) rfl (fun w => (Step.move rfl)) ?_
    refine TW.pure (v := (Value.int .i64 (↑((i_) % 3)))) rfl (by decide) (by decide) rfl (fun w => (Step.cast (congrArg (Value.int .i64) (show ((↑i_ : Int) % 3 : Int) = (((i_) % 3 : Nat) : Int) by omega)) (Step.remN rfl rfl (by omega) (by decide)))) ?_
    refine TW.pure (v := (Value.pointer (some ⟨(sBlk (Value.slice (some ⟨b17, 0, none⟩) 3 3)), sOff (Value.slice (some ⟨b17, 0, none⟩) 3 3) + ((i_) % 3) * 1, none⟩))) rfl (by decide) (by decide) rfl (fun w => (Step.indexAddr (i := (i_) % 3) (Try.un121).run Try.el2.sized rfl rfl (by omega) hb19 (by omega))) ?_
    refine TW.read (v := (Value.int .i64 x21)) rfl (by decide) (by decide) rfl (fun A w M => (Step.loadE (k := 0) Try.sc2 (flat_ec (own_slAt (M.chunk 1 rfl).inv) hx21 intE_len) (by decide) rfl rfl)) ?_
    refine TW.pure (v := (Value.agg #[(Value.int .i64 x10), (Value.int .i64 x11), (Value.int .i64 x12), (Value.int .i64 x21)])) rfl (by decide) (by decide) rfl (fun w => (Step.pure (by kernel_rfl))) ?_
    refine TW.new (obj := .cells #[(Value.int .i64 0), (Value.int .i64 0), (Value.int .i64 0), (Value.int .i64 0)] 32) (fun b => .pointer (some ⟨b, 0, none⟩)) rfl (by decide) (by decide) rfl (fun w => Step.alloc Try.el32.zero) (fun b28 => ?_)
    refine TW.store (v := (Value.agg #[(Value.int .i64 x10), (Value.int .i64 x11), (Value.int .i64 x12), (Value.int .i64 x21)])) (cs := [(Value.int .i64 x10), (Value.int .i64 x11), (Value.int .i64 x12), (Value.int .i64 x21)]) (c' := #[(Value.int .i64 x10), (Value.int .i64 x11), (Value.int .i64 x12), (Value.int .i64 x21)]) 0 rfl rfl (by decide) rfl Try.el32.sized rfl rfl rfl rfl (Nat.le_of_ble_eq_true rfl) (cel_cons rfl (cel_cons rfl (cel_cons rfl (cel_cons rfl cel_nil)))) rfl rfl (List.Sublist.cons _ (List.Sublist.cons_cons _ List.Sublist.slnil)) (fun r h => h) ?_
    refine TW.done (fun w29 M => ?_)
    refine W.seq' ?_
    have hinT := in_three hnhx10 hnhx11 hnhx12
    have hjT := inJ_four (c := x12) (d := x21) hnhx10 hnhx11
    have haT : in64 x10 ∧ in64 x11 := ⟨hnhx10, hnhx11⟩
    refine W.drawn M [0, 1, 2, 3, 4, 5, 6, 7, 8, 9, 10, 11, 12, 13, 14, 15, 16, 17, 18, 19, 20, 21, 22, 23, 24, 25, 26, 27, 28, 29, 30, 31, 32, 33, 34, 35, 36] [5, 13, 21, 34] [33] [blk b28 (.cells #[(Value.int .i64 x10), (Value.int .i64 x11), (Value.int .i64 x12), (Value.int .i64 x21)] 32), own 2 1 (Value.slice (some ⟨b17, 0, none⟩) 3 3) (([x10, x11, x12] : List Int).length) (([x10, x11, x12] : List Int).flatMap intE)] [SlAt 1 vv_ valsL.length (valsL.flatMap intE)] (List.Sublist.cons_cons _ (List.Sublist.cons_cons _ List.Sublist.slnil)) (fun _ h => h) Try.mixed (by kernel_rfl) ?_
    refine TW.pure (v := (Value.slice (some ⟨b17, 0, none⟩) 3 3)) rfl (by decide) (by decide) rfl (fun w => (Step.move rfl)) ?_
    refine TW.read (v := (Value.agg #[(Value.int .i64 x10), (Value.int .i64 x11), (Value.int .i64 x12), (Value.int .i64 x21)])) rfl (by decide) (by decide) rfl (fun A w M => (Step.loadN Try.ag32 rfl (M.blk 1 rfl) (Nat.le_of_ble_eq_true rfl) rfl)) ?_
    refine TW.pure (v := (Value.slice (some ⟨b17, 0, none⟩) 3 3)) rfl (by decide) (by decide) rfl (fun w => (Step.move rfl)) ?_
    refine TW.pure (v := (Value.pointer (some ⟨(sBlk (Value.slice (some ⟨b17, 0, none⟩) 3 3)), sOff (Value.slice (some ⟨b17, 0, none⟩) 3 3) + 2 * 1, none⟩))) rfl (by decide) (by decide) rfl (fun w => (Step.indexAddr (i := 2) (Try.un121).run Try.el2.sized rfl rfl rfl hb19 (by omega))) ?_
    refine TW.read (v := (Value.int .i64 x12)) rfl (by decide) (by decide) rfl (fun A w M => (Step.loadE (k := 0) Try.sc2 (flat_ec (i := 2) (x := x12) (own_slAt (M.chunk 2 rfl).inv) rfl intE_len) (by decide) rfl rfl)) ?_
    refine TW.callX (ι := Unit) (fun jx v_ => v_ = (Value.bool true)) (fun jx => [blk b28 (.cells #[(Value.int .i64 x10), (Value.int .i64 x11), (Value.int .i64 x12), (Value.int .i64 x21)] 32), own 2 1 (Value.slice (some ⟨b17, 0, none⟩) 3 3) (([x10, x11, x12] : List Int).length) (([x10, x11, x12] : List Int).flatMap intE)]) (fun jx => [SlAt 1 vv_ valsL.length (valsL.flatMap intE)]) rfl (by decide) rfl (fun jx => (List.Sublist.cons_cons _ (List.Sublist.cons_cons _ List.Sublist.slnil))) (fun jx r h => h) (fun A w M => Rets.mono (law5_tells (Value.slice (some ⟨b17, 0, none⟩) 3 3) ([x10, x11, x12] : List Int) (⟨x10, x11, x12, x21⟩ : Agg5) x12 (by first | assumption | decide) (by first | assumption | decide) (by first | assumption | decide) (M.enterW0 ⟨((M.wideC0 2 rfl).imp fun _ h => own_slAt h), trivial⟩)) (fun v_ w_ ⟨e_, m⟩ => ⟨(), e_, (M.leaveW0 m).sel (L' := [fl A, blk b28 (.cells #[(Value.int .i64 x10), (Value.int .i64 x11), (Value.int .i64 x12), (Value.int .i64 x21)] 32), own 2 1 (Value.slice (some ⟨b17, 0, none⟩) 3 3) (([x10, x11, x12] : List Int).length) (([x10, x11, x12] : List Int).flatMap intE)]) [0, 1, 2] rfl (by decide), fun b hb => M.keptW0 m (fl A) (List.mem_cons_self ..) b hb⟩)) (fun w => CallsF.func Try.en74 rfl) (fun jx v hp hin => ?_)
    replace hp := hp.symm; subst hp
    clear hin
    change TW _ _ _ _ _ _ _ _ (MemA _ _ _ [blk b28 (.cells #[(Value.int .i64 x10), (Value.int .i64 x11), (Value.int .i64 x12), (Value.int .i64 x21)] 32), own 2 1 (Value.slice (some ⟨b17, 0, none⟩) 3 3) (([x10, x11, x12] : List Int).length) (([x10, x11, x12] : List Int).flatMap intE)] [SlAt 1 vv_ valsL.length (valsL.flatMap intE)])
    refine TW.pure (v := (Value.bool false)) rfl (by decide) (by decide) rfl (fun w => (Step.pure (by kernel_rfl))) ?_
    refine TW.pure (v := (Value.bool false)) rfl (by decide) (by decide) rfl (fun w => (Step.move rfl)) ?_
    refine TW.pure (v := (Value.slice (some ⟨b17, 0, none⟩) 3 3)) rfl (by decide) (by decide) rfl (fun w => (Step.move rfl)) ?_
    refine TW.pure (v := (Value.int .i64 ↑i_)) rfl (by decide) (by decide) rfl (fun w => (Step.move rfl)) ?_
    refine TW.pure (v := (Value.int .i64 (↑((i_) % 4)))) rfl (by decide) (by decide) rfl (fun w => (Step.cast (congrArg (Value.int .i64) (show ((↑i_ : Int) % 4 : Int) = (((i_) % 4 : Nat) : Int) by omega)) (Step.remN rfl rfl (by omega) (by decide)))) ?_
    refine TW.pure (v := (Value.int .i64 ↑i_)) rfl (by decide) (by decide) rfl (fun w => (Step.move rfl)) ?_
    refine TW.pure (v := (Value.int .i64 (↑((i_) / 3)))) rfl (by decide) (by decide) rfl (fun w => (Step.cast (congrArg (Value.int .i64) (show ((↑i_ : Int) / 3 : Int) = (((i_) / 3 : Nat) : Int) by omega)) (Step.quoN rfl rfl (by omega) (by decide) (wrap_i64 (by omega))))) ?_
    refine TW.callX (ι := Unit) (fun jx v_ => v_ = (Value.bool true)) (fun jx => [blk b28 (.cells #[(Value.int .i64 x10), (Value.int .i64 x11), (Value.int .i64 x12), (Value.int .i64 x21)] 32), own 2 1 (Value.slice (some ⟨b17, 0, none⟩) 3 3) (([x10, x11, x12] : List Int).length) (([x10, x11, x12] : List Int).flatMap intE)]) (fun jx => [SlAt 1 vv_ valsL.length (valsL.flatMap intE)]) rfl (by decide) rfl (fun jx => (List.Sublist.cons_cons _ (List.Sublist.cons_cons _ List.Sublist.slnil))) (fun jx r h => h) (fun A w M => Rets.mono (law5_parts (Value.slice (some ⟨b17, 0, none⟩) 3 3) ([x10, x11, x12] : List Int) (↑((i_) % 4)) (↑((i_) / 3)) (by first | assumption | decide) (M.enterW0 ⟨((M.wideC0 2 rfl).imp fun _ h => own_slAt h), trivial⟩)) (fun v_ w_ ⟨e_, m⟩ => ⟨(), e_, (M.leaveW0 m).sel (L' := [fl A, blk b28 (.cells #[(Value.int .i64 x10), (Value.int .i64 x11), (Value.int .i64 x12), (Value.int .i64 x21)] 32), own 2 1 (Value.slice (some ⟨b17, 0, none⟩) 3 3) (([x10, x11, x12] : List Int).length) (([x10, x11, x12] : List Int).flatMap intE)]) [0, 1, 2] rfl (by decide), fun b hb => M.keptW0 m (fl A) (List.mem_cons_self ..) b hb⟩)) (fun w => CallsF.func Try.en13 rfl) (fun jx v hp hin => ?_)
    replace hp := hp.symm; subst hp
    clear hin
    change TW _ _ _ _ _ _ _ _ (MemA _ _ _ [blk b28 (.cells #[(Value.int .i64 x10), (Value.int .i64 x11), (Value.int .i64 x12), (Value.int .i64 x21)] 32), own 2 1 (Value.slice (some ⟨b17, 0, none⟩) 3 3) (([x10, x11, x12] : List Int).length) (([x10, x11, x12] : List Int).flatMap intE)] [SlAt 1 vv_ valsL.length (valsL.flatMap intE)])
    refine TW.pure (v := (Value.bool false)) rfl (by decide) (by decide) rfl (fun w => (Step.pure (by kernel_rfl))) ?_
    refine TW.pure (v := (Value.bool false)) rfl (by decide) (by decide) rfl (fun w => (Step.pick (t := false) rfl rfl)) ?_
    refine TW.pure (v := (Value.bool false)) rfl (by decide) (by decide) rfl (fun w => (Step.move rfl)) ?_
    refine TW.read (v := (Value.agg #[(Value.int .i64 x10), (Value.int .i64 x11), (Value.int .i64 x12), (Value.int .i64 x21)])) rfl (by decide) (by decide) rfl (fun A w M => (Step.loadN Try.ag32 rfl (M.blk 1 rfl) (Nat.le_of_ble_eq_true rfl) rfl)) ?_
    refine TW.pure (v := (Value.slice (some ⟨b17, 0, none⟩) 3 3)) rfl (by decide) (by decide) rfl (fun w => (Step.move rfl)) ?_
    refine TW.pure (v := (Value.pointer (some ⟨(sBlk (Value.slice (some ⟨b17, 0, none⟩) 3 3)), sOff (Value.slice (some ⟨b17, 0, none⟩) 3 3) + 1 * 1, none⟩))) rfl (by decide) (by decide) rfl (fun w => (Step.indexAddr (i := 1) (Try.un121).run Try.el2.sized rfl rfl rfl hb19 (by omega))) ?_
    refine TW.read (v := (Value.int .i64 x11)) rfl (by decide) (by decide) rfl (fun A w M => (Step.loadE (k := 0) Try.sc2 (flat_ec (i := 1) (x := x11) (own_slAt (M.chunk 2 rfl).inv) rfl intE_len) (by decide) rfl rfl)) ?_
    refine TW.callX (ι := Unit) (fun jx v_ => v_ = (Value.agg #[(Value.int .i64 1), (Value.int .i64 x11), (Value.int .i64 x11), (Value.int .i64 x11)])) (fun jx => [blk b28 (.cells #[(Value.int .i64 x10), (Value.int .i64 x11), (Value.int .i64 x12), (Value.int .i64 x21)] 32), own 2 1 (Value.slice (some ⟨b17, 0, none⟩) 3 3) (([x10, x11, x12] : List Int).length) (([x10, x11, x12] : List Int).flatMap intE)]) (fun jx => [SlAt 1 vv_ valsL.length (valsL.flatMap intE)]) rfl (by decide) rfl (fun jx => (List.Sublist.cons_cons _ (List.Sublist.cons_cons _ List.Sublist.slnil))) (fun jx r h => h) (fun A w M => Rets.mono (agg_one x11 (M.enterW0 trivial)) (fun v_ w_ ⟨e_, m⟩ => ⟨(), e_, (M.leaveW0 m).sel (L' := [fl A, blk b28 (.cells #[(Value.int .i64 x10), (Value.int .i64 x11), (Value.int .i64 x12), (Value.int .i64 x21)] 32), own 2 1 (Value.slice (some ⟨b17, 0, none⟩) 3 3) (([x10, x11, x12] : List Int).length) (([x10, x11, x12] : List Int).flatMap intE)]) [0, 1, 2] rfl (by decide), fun b hb => M.keptW0 m (fl A) (List.mem_cons_self ..) b hb⟩)) (fun w => CallsF.func Try.en76 rfl) (fun jx v hp hin => ?_)
    replace hp := hp.symm; subst hp
    clear hin
    change TW _ _ _ _ _ _ _ _ (MemA _ _ _ [blk b28 (.cells #[(Value.int .i64 x10), (Value.int .i64 x11), (Value.int .i64 x12), (Value.int .i64 x21)] 32), own 2 1 (Value.slice (some ⟨b17, 0, none⟩) 3 3) (([x10, x11, x12] : List Int).length) (([x10, x11, x12] : List Int).flatMap intE)] [SlAt 1 vv_ valsL.length (valsL.flatMap intE)])
    refine TW.pure (v := (Value.agg #[(Value.int .i64 0), (Value.int .i64 0), (Value.int .i64 0), (Value.int .i64 0)])) rfl (by decide) (by decide) rfl (fun w => (Step.pure (by kernel_rfl))) ?_
    refine TW.pure (v := (Value.slice (some ⟨b17, 0, none⟩) 3 3)) rfl (by decide) (by decide) rfl (fun w => (Step.move rfl)) ?_
    refine TW.pure (v := (Value.pointer (some ⟨(sBlk (Value.slice (some ⟨b17, 0, none⟩) 3 3)), sOff (Value.slice (some ⟨b17, 0, none⟩) 3 3) + 1 * 1, none⟩))) rfl (by decide) (by decide) rfl (fun w => (Step.indexAddr (i := 1) (Try.un121).run Try.el2.sized rfl rfl rfl hb19 (by omega))) ?_
    refine TW.read (v := (Value.int .i64 x11)) rfl (by decide) (by decide) rfl (fun A w M => (Step.loadE (k := 0) Try.sc2 (flat_ec (i := 1) (x := x11) (own_slAt (M.chunk 2 rfl).inv) rfl intE_len) (by decide) rfl rfl)) ?_
    refine TW.pure (v := (Value.slice (some ⟨b17, 0, none⟩) 3 3)) rfl (by decide) (by decide) rfl (fun w => (Step.move rfl)) ?_
    refine TW.pure (v := (Value.pointer (some ⟨(sBlk (Value.slice (some ⟨b17, 0, none⟩) 3 3)), sOff (Value.slice (some ⟨b17, 0, none⟩) 3 3) + 0 * 1, none⟩))) rfl (by decide) (by decide) rfl (fun w => (Step.indexAddr (i := 0) (Try.un121).run Try.el2.sized rfl rfl rfl hb19 (by omega))) ?_
    refine TW.read (v := (Value.int .i64 x10)) rfl (by decide) (by decide) rfl (fun A w M => (Step.loadE (k := 0) Try.sc2 (flat_ec (i := 0) (x := x10) (own_slAt (M.chunk 2 rfl).inv) rfl intE_len) (by decide) rfl rfl)) ?_
    refine TW.pure (v := (Value.slice (some ⟨b17, 0, none⟩) 3 3)) rfl (by decide) (by decide) rfl (fun w => (Step.move rfl)) ?_
    refine TW.pure (v := (Value.pointer (some ⟨(sBlk (Value.slice (some ⟨b17, 0, none⟩) 3 3)), sOff (Value.slice (some ⟨b17, 0, none⟩) 3 3) + 2 * 1, none⟩))) rfl (by decide) (by decide) rfl (fun w => (Step.indexAddr (i := 2) (Try.un121).run Try.el2.sized rfl rfl rfl hb19 (by omega))) ?_
    refine TW.read (v := (Value.int .i64 x12)) rfl (by decide) (by decide) rfl (fun A w M => (Step.loadE (k := 0) Try.sc2 (flat_ec (i := 2) (x := x12) (own_slAt (M.chunk 2 rfl).inv) rfl intE_len) (by decide) rfl rfl)) ?_
    refine TW.pure (v := (Value.agg #[(Value.int .i64 x11), (Value.int .i64 x10), (Value.int .i64 1), (Value.int .i64 x12)])) rfl (by decide) (by decide) rfl (fun w => (Step.pure (by kernel_rfl))) ?_
    refine TW.new (obj := .cells #[(Value.int .i64 x10), (Value.int .i64 x11), (Value.int .i64 x12), (Value.int .i64 x21), (Value.int .i64 1), (Value.int .i64 x11), (Value.int .i64 x11), (Value.int .i64 x11), (Value.int .i64 0), (Value.int .i64 0), (Value.int .i64 0), (Value.int .i64 0), (Value.int .i64 x11), (Value.int .i64 x10), (Value.int .i64 1), (Value.int .i64 x12)] 32) (fun b => .slice (some ⟨b, 0, none⟩) 4 4) rfl (by decide) (by decide) rfl (fun w => Step.make (by kernel_rfl)) (fun b34 => ?_)
    refine TW.callX (ι := Unit) (fun jx v_ => v_ = (Value.bool true)) (fun jx => [blk b34 (.cells #[(Value.int .i64 x10), (Value.int .i64 x11), (Value.int .i64 x12), (Value.int .i64 x21), (Value.int .i64 1), (Value.int .i64 x11), (Value.int .i64 x11), (Value.int .i64 x11), (Value.int .i64 0), (Value.int .i64 0), (Value.int .i64 0), (Value.int .i64 0), (Value.int .i64 x11), (Value.int .i64 x10), (Value.int .i64 1), (Value.int .i64 x12)] 32), blk b28 (.cells #[(Value.int .i64 x10), (Value.int .i64 x11), (Value.int .i64 x12), (Value.int .i64 x21)] 32), own 2 1 (Value.slice (some ⟨b17, 0, none⟩) 3 3) (([x10, x11, x12] : List Int).length) (([x10, x11, x12] : List Int).flatMap intE)]) (fun jx => [SlAt 1 vv_ valsL.length (valsL.flatMap intE)]) rfl (by decide) rfl (fun jx => (List.Sublist.cons _ (List.Sublist.cons_cons _ (List.Sublist.cons_cons _ List.Sublist.slnil)))) (fun jx r h => h) (fun A w M => Rets.mono (law5_joins (Value.slice (some ⟨b34, 0, none⟩) 4 4) ([(⟨x10, x11, x12, x21⟩ : Agg5), (⟨1, x11, x11, x11⟩ : Agg5), (⟨0, 0, 0, 0⟩ : Agg5), (⟨x11, x10, 1, x12⟩ : Agg5)] : List Agg5) (by first | assumption | decide) (M.enterW0 ⟨((M.wideC0 1 rfl).imp fun _ h => SlAt.of_blk (n := 4) (size := 4) h rfl (by decide)), trivial⟩)) (fun v_ w_ ⟨e_, m⟩ => ⟨(), e_, (M.leaveW0 m).sel (L' := [fl A, blk b34 (.cells #[(Value.int .i64 x10), (Value.int .i64 x11), (Value.int .i64 x12), (Value.int .i64 x21), (Value.int .i64 1), (Value.int .i64 x11), (Value.int .i64 x11), (Value.int .i64 x11), (Value.int .i64 0), (Value.int .i64 0), (Value.int .i64 0), (Value.int .i64 0), (Value.int .i64 x11), (Value.int .i64 x10), (Value.int .i64 1), (Value.int .i64 x12)] 32), blk b28 (.cells #[(Value.int .i64 x10), (Value.int .i64 x11), (Value.int .i64 x12), (Value.int .i64 x21)] 32), own 2 1 (Value.slice (some ⟨b17, 0, none⟩) 3 3) (([x10, x11, x12] : List Int).length) (([x10, x11, x12] : List Int).flatMap intE)]) [0, 1, 2, 3] rfl (by decide), fun b hb => M.keptW0 m (fl A) (List.mem_cons_self ..) b hb⟩)) (fun w => CallsF.func Try.en75 rfl) (fun jx v hp hin => ?_)
    replace hp := hp.symm; subst hp
    clear hin
    change TW _ _ _ _ _ _ _ _ (MemA _ _ _ [blk b34 (.cells #[(Value.int .i64 x10), (Value.int .i64 x11), (Value.int .i64 x12), (Value.int .i64 x21), (Value.int .i64 1), (Value.int .i64 x11), (Value.int .i64 x11), (Value.int .i64 x11), (Value.int .i64 0), (Value.int .i64 0), (Value.int .i64 0), (Value.int .i64 0), (Value.int .i64 x11), (Value.int .i64 x10), (Value.int .i64 1), (Value.int .i64 x12)] 32), blk b28 (.cells #[(Value.int .i64 x10), (Value.int .i64 x11), (Value.int .i64 x12), (Value.int .i64 x21)] 32), own 2 1 (Value.slice (some ⟨b17, 0, none⟩) 3 3) (([x10, x11, x12] : List Int).length) (([x10, x11, x12] : List Int).flatMap intE)] [SlAt 1 vv_ valsL.length (valsL.flatMap intE)])
    refine TW.pure (v := (Value.bool false)) rfl (by decide) (by decide) rfl (fun w => (Step.pure (by kernel_rfl))) ?_
    refine TW.pure (v := (Value.bool false)) rfl (by decide) (by decide) rfl (fun w => (Step.pick (t := false) rfl rfl)) ?_
    refine TW.done (fun w35 M => ?_)
    refine W.cond (t := false) rfl (fun h => by cases h) (fun _ => ?_)
    refine W.skip ?_
    refine W.region rfl ?_
    refine WL.step (v := (Value.int .i64 ↑i_)) rfl (Step.move rfl) ?_
    refine WL.step (v := (Value.int .i64 (↑i_ + 1))) rfl (Step.add rfl rfl (wrap_i64 (by omega))) ?_
    refine WL.step (v := (Value.int .i64 (↑i_ + 1))) rfl (Step.assign rfl) ?_
    refine WL.nil ?_
    replace M := M.sel (L' := []) [] rfl (by decide)
    exact ⟨_, (by omega), i_ + 1, _, ⟨(by omega), rfl⟩, ⟨rfl, rfl, rfl, rfl⟩, M⟩
  ·
    have h7p := of_decide_eq_false h7
    refine W.exit ?_
    refine thn_exit ?_
    refine thn_exit ?_
    refine inBlk_hit ?_
    refine W.seq' ?_
    refine W.region rfl ?_
    refine WL.step (v := (Value.slice none 0 0)) rfl (Step.assign rfl) ?_
    refine WL.nil ?_
    refine W.seq' ?_
    refine W.seq' ?_
    refine W.region rfl ?_
    refine WL.step (v := (Value.int .i64 0)) rfl (Step.assign rfl) ?_
    refine WL.nil ?_
    refine W.block ?_
    replace M := M.ownNil 115 7
    replace M : Mem _ _ _ [own 115 7 (Value.slice none 0 0) (([] : List Row5).length) (([] : List Row5).flatMap rowE)] [SlAt 1 vv_ valsL.length (valsL.flatMap intE)] _ := M
    replace M := M.rechunk 0 (c' := own 115 7 (Value.slice none 0 0) (([] : List Row5).length) (([] : List Row5).flatMap rowE)) rfl rfl
    replace M : Mem _ _ _ [own 115 7 (Value.slice none 0 0) (([] : List Row5).length) (([] : List Row5).flatMap rowE)] [SlAt 1 vv_ valsL.length (valsL.flatMap intE)] _ := M
    refine W.loop (fun kk ρ w' => ∃ (i_ : Nat) (lv_ : Value) (ls_ : List Row5), ((i_ ≤ 18) ∧ (ls_.length = i_) ∧ kk = 18 - i_) ∧ ρ.has [(5, lv_), (6, (Value.int .i64 ↑i_))] ∧ Mem G (fun _ => False) w [own 115 7 lv_ ls_.length (ls_.flatMap rowE)] [SlAt 1 vv_ valsL.length (valsL.flatMap intE)]  w') _ ⟨0, _, ([] : List Row5), ⟨(by decide), rfl, rfl⟩, ⟨rfl, rfl, rfl, rfl⟩, M⟩ ?_
    rintro _ ρ37 w36 ⟨i_, lv_, ls_, ⟨hi38, hi39, rfl⟩, hρ, M⟩
    obtain ⟨ρ37, rfl⟩ := hρ.know
    clear hρ
    have sl40 : IsSl lv_ := SlAt.isSl (own_slAt (M.chunk 0 rfl).inv)
    have hl1_ := hi39
    refine W.seq' ?_
    refine W.seq' ?_
    refine W.region rfl ?_
    refine WL.step (v := (Value.int .i64 ↑i_)) rfl (Step.move rfl) ?_
    refine WL.step (v := (Value.bool (decide ((↑i_ : Int) < (18 : Int))))) rfl (Step.pure (by kernel_rfl)) ?_
    refine WL.nil ?_
    refine W.cond (t := decide ((↑i_ : Int) < (18 : Int))) rfl (fun h41 => ?_) (fun h41 => ?_)
    ·
      have h41p := of_decide_eq_true h41
      refine W.skip ?_
      refine W.seq' ?_
      refine W.block ?_
      refine W.seq' ?_
      refine W.region rfl ?_
      refine WL.step (v := lv_) rfl (Step.move rfl) ?_
      refine WL.new (obj := .cells #[(Value.string (⟨#[]⟩)), (Value.string (⟨#[97]⟩)), (Value.string (⟨#[98]⟩)), (Value.string (⟨#[97, 98]⟩))] 9) (fun b => .slice (some ⟨b, 0, none⟩) 4 4) M rfl (fun w => Step.make (by kernel_rfl)) (fun b42 w43 hb42 M => ?_)
      refine WL.step (v := (Value.int .i64 ↑i_)) rfl (Step.move rfl) ?_
      refine WL.step (v := (Value.int .i64 (↑i_ * 7))) rfl (Step.mul rfl rfl (wrap_i64 (by omega))) ?_
      refine WL.step (v := (Value.int .i64 (↑((i_ * 7) % 4)))) rfl (Step.cast (congrArg (Value.int .i64) (show ((↑i_ * 7 : Int) % 4 : Int) = (((i_ * 7) % 4 : Nat) : Int) by omega)) (Step.remN rfl rfl (by omega) (by decide))) ?_
      replace M := M.ownBlk 0 (n := 4) (size := 1) rfl rfl (by decide)
      replace M : Mem _ _ _ [own 9 1 (Value.slice (some ⟨b42, 0, none⟩) 4 4) (([(⟨#[]⟩), (⟨#[97]⟩), (⟨#[98]⟩), (⟨#[97, 98]⟩)] : List ByteArray).length) (([(⟨#[]⟩), (⟨#[97]⟩), (⟨#[98]⟩), (⟨#[97, 98]⟩)] : List ByteArray).flatMap strE), own 115 7 lv_ ls_.length (ls_.flatMap rowE)] [SlAt 1 vv_ valsL.length (valsL.flatMap intE)] _ := M
      obtain ⟨cap45, hb44⟩ := SlAt.base (n := 4) (own_slAt (M.chunk 0 rfl).inv) (by decide)
      obtain ⟨x46, hx46⟩ := elem_of_lt (xs := ([(⟨#[]⟩), (⟨#[97]⟩), (⟨#[98]⟩), (⟨#[97, 98]⟩)] : List ByteArray)) (i := (i_ * 7) % 4) (by simp only [List.length_cons, List.length_nil]; omega)
      refine WL.step (v := (Value.pointer (some ⟨(sBlk (Value.slice (some ⟨b42, 0, none⟩) 4 4)), sOff (Value.slice (some ⟨b42, 0, none⟩) 4 4) + ((i_ * 7) % 4) * 1, none⟩))) rfl (Step.indexAddr (i := (i_ * 7) % 4) (Try.un132).run Try.el9.sized rfl rfl (by omega) hb44 (by omega)) ?_
      refine WL.step (v := (Value.string x46)) rfl (Step.loadE (k := 0) Try.sc9 (flat_ec (own_slAt (M.chunk 0 rfl).inv) hx46 strE_len) (by decide) rfl rfl) ?_
      refine WL.step (v := (Value.int .i64 ↑i_)) rfl (Step.move rfl) ?_
      refine WL.step (v := (Value.int .i64 (↑((i_) % 3)))) rfl (Step.cast (congrArg (Value.int .i64) (show ((↑i_ : Int) % 3 : Int) = (((i_) % 3 : Nat) : Int) by omega)) (Step.remN rfl rfl (by omega) (by decide))) ?_
      refine WL.step (v := (Value.int .i64 ↑i_)) rfl (Step.move rfl) ?_
      refine WL.step (v := (Value.int .i64 (↑i_ * 5))) rfl (Step.mul rfl rfl (wrap_i64 (by omega))) ?_
      refine WL.step (v := (Value.int .i64 (↑((i_ * 5) % 4)))) rfl (Step.cast (congrArg (Value.int .i64) (show ((↑i_ * 5 : Int) % 4 : Int) = (((i_ * 5) % 4 : Nat) : Int) by omega)) (Step.remN rfl rfl (by omega) (by decide))) ?_
      refine WL.callX rfl (law5_row x46 (↑((i_) % 3)) (↑((i_ * 5) % 4)) (M.enterW0 trivial)) (CallsF.func Try.en77 rfl) ?_
      rintro _ w47 ⟨rfl, m⟩
      replace M := M.leaveW0 m
      clear m
      replace M : Mem _ _ _ [own 9 1 (Value.slice (some ⟨b42, 0, none⟩) 4 4) (([(⟨#[]⟩), (⟨#[97]⟩), (⟨#[98]⟩), (⟨#[97, 98]⟩)] : List ByteArray).length) (([(⟨#[]⟩), (⟨#[97]⟩), (⟨#[98]⟩), (⟨#[97, 98]⟩)] : List ByteArray).flatMap strE), own 115 7 lv_ ls_.length (ls_.flatMap rowE)] [SlAt 1 vv_ valsL.length (valsL.flatMap intE)] _ := M
      refine WL.new (obj := .cells #[(Value.string x46), (Value.int .i64 (↑((i_) % 3))), (Value.int .i64 (↑((i_ * 5) % 4))), (Value.int .i64 1), (Value.int .i64 0), (Value.int .i64 0), (Value.int .i64 0)] 115) (fun b => .slice (some ⟨b, 0, none⟩) 1 1) M rfl (fun w => Step.make (by kernel_rfl)) (fun b48 w49 hb48 M => ?_)
      refine WL.does rfl (M.appendF ls_ ([(⟨(⟨x46, (↑((i_) % 3)), (↑((i_ * 5) % 4))⟩ : Pane5), (⟨1, 0, 0, 0⟩ : Agg5)⟩ : Row5)] : List Row5) (sv := (Value.slice (some ⟨b48, 0, none⟩) 1 1)) 2 Try.un105 Try.el115 rfl (by decide) rfl rfl rfl (SlAt.of_blk (M.blk 0 rfl) rfl (by decide)) rowE_cel (by have := (by omega); simp only [maxLen, List.length_nil, List.length_cons, List.length_append]; omega) (by have := (by omega); (try simp only [List.length_nil, List.length_cons, List.length_append]); omega)) ?_
      rintro v50 w51 M
      replace M : Mem _ _ _ [blk b48 (.cells #[(Value.string x46), (Value.int .i64 (↑((i_) % 3))), (Value.int .i64 (↑((i_ * 5) % 4))), (Value.int .i64 1), (Value.int .i64 0), (Value.int .i64 0), (Value.int .i64 0)] 115), own 9 1 (Value.slice (some ⟨b42, 0, none⟩) 4 4) (([(⟨#[]⟩), (⟨#[97]⟩), (⟨#[98]⟩), (⟨#[97, 98]⟩)] : List ByteArray).length) (([(⟨#[]⟩), (⟨#[97]⟩), (⟨#[98]⟩), (⟨#[97, 98]⟩)] : List ByteArray).flatMap strE), own 115 7 v50 ((ls_ ++ ([(⟨(⟨x46, (↑((i_) % 3)), (↑((i_ * 5) % 4))⟩ : Pane5), (⟨1, 0, 0, 0⟩ : Agg5)⟩ : Row5)] : List Row5)).length) ((ls_ ++ ([(⟨(⟨x46, (↑((i_) % 3)), (↑((i_ * 5) % 4))⟩ : Pane5), (⟨1, 0, 0, 0⟩ : Agg5)⟩ : Row5)] : List Row5)).flatMap rowE)] [SlAt 1 vv_ valsL.length (valsL.flatMap intE)] _ := M
      have sl52 : IsSl v50 := SlAt.isSl (own_slAt (M.chunk 2 rfl).inv)
      refine WL.step (v := v50) rfl (Step.assign rfl) ?_
      refine WL.nil ?_
      refine W.seq' ?_
      obtain ⟨ms_, hms_⟩ : ∃ ms_, ms_ = ls_ ++ ([(⟨(⟨x46, (↑((i_) % 3)), (↑((i_ * 5) % 4))⟩ : Pane5), (⟨1, 0, 0, 0⟩ : Agg5)⟩ : Row5)] : List Row5) := ⟨_, rfl⟩
      have hml_ : ms_.length = i_ + 1 := by rw [hms_]; simp; omega
      replace M := M.rechunk 2 (c' := own 115 7 v50 ms_.length (ms_.flatMap rowE)) rfl (by rw [hms_])
      replace M : Mem _ _ _ [blk b48 (.cells #[(Value.string x46), (Value.int .i64 (↑((i_) % 3))), (Value.int .i64 (↑((i_ * 5) % 4))), (Value.int .i64 1), (Value.int .i64 0), (Value.int .i64 0), (Value.int .i64 0)] 115), own 9 1 (Value.slice (some ⟨b42, 0, none⟩) 4 4) (([(⟨#[]⟩), (⟨#[97]⟩), (⟨#[98]⟩), (⟨#[97, 98]⟩)] : List ByteArray).length) (([(⟨#[]⟩), (⟨#[97]⟩), (⟨#[98]⟩), (⟨#[97, 98]⟩)] : List ByteArray).flatMap strE), own 115 7 v50 ms_.length (ms_.flatMap rowE)] [SlAt 1 vv_ valsL.length (valsL.flatMap intE)] _ := M
      have hsh53 := SlAt.shp (own_slAt (M.chunk 2 rfl).inv)
      have hsh53c := hsh53
      obtain ⟨_, _, hsh53l, hsh53m⟩ := hsh53c
      refine W.drawn M [0, 1, 2, 3, 4, 5, 6, 7, 8, 9, 10, 11, 12, 13, 14, 15] [5, 13] [] [blk b48 (.cells #[(Value.string x46), (Value.int .i64 (↑((i_) % 3))), (Value.int .i64 (↑((i_ * 5) % 4))), (Value.int .i64 1), (Value.int .i64 0), (Value.int .i64 0), (Value.int .i64 0)] 115), own 9 1 (Value.slice (some ⟨b42, 0, none⟩) 4 4) (([(⟨#[]⟩), (⟨#[97]⟩), (⟨#[98]⟩), (⟨#[97, 98]⟩)] : List ByteArray).length) (([(⟨#[]⟩), (⟨#[97]⟩), (⟨#[98]⟩), (⟨#[97, 98]⟩)] : List ByteArray).flatMap strE), own 115 7 v50 ms_.length (ms_.flatMap rowE)] [SlAt 1 vv_ valsL.length (valsL.flatMap intE)] (List.Sublist.cons_cons _ (List.Sublist.cons_cons _ (List.Sublist.cons_cons _ List.Sublist.slnil))) (fun _ h => h) Try.mixed (by kernel_rfl) ?_
      refine TW.pure (v := v50) rfl (by decide) (by decide) rfl (fun w => (Step.move rfl)) ?_
      refine TW.pure (v := v50) rfl (by decide) (by decide) rfl (fun w => (Step.move rfl)) ?_
      refine TW.pure (v := (Value.int .i64 ↑i_)) rfl (by decide) (by decide) rfl (fun w => (Step.move rfl)) ?_
      refine TW.pure (v := (Value.int .i64 (↑((i_) / 2)))) rfl (by decide) (by decide) rfl (fun w => (Step.cast (congrArg (Value.int .i64) (show ((↑i_ : Int) / 2 : Int) = (((i_) / 2 : Nat) : Int) by omega)) (Step.quoN rfl rfl (by omega) (by decide) (wrap_i64 (by omega))))) ?_
      refine TW.pure (v := (vSlice 7 ((i_) / 2) ms_.length (vCap v50) v50)) rfl (by decide) (by decide) rfl (fun w => (Step.sliceFromP (l := (i_) / 2) Try.un105 Try.el115.sized rfl rfl (by omega) hsh53 (by omega))) ?_
      refine TW.callX (ι := Unit) (fun jx v_ => v_ = (Value.bool true)) (fun jx => [blk b48 (.cells #[(Value.string x46), (Value.int .i64 (↑((i_) % 3))), (Value.int .i64 (↑((i_ * 5) % 4))), (Value.int .i64 1), (Value.int .i64 0), (Value.int .i64 0), (Value.int .i64 0)] 115), own 9 1 (Value.slice (some ⟨b42, 0, none⟩) 4 4) (([(⟨#[]⟩), (⟨#[97]⟩), (⟨#[98]⟩), (⟨#[97, 98]⟩)] : List ByteArray).length) (([(⟨#[]⟩), (⟨#[97]⟩), (⟨#[98]⟩), (⟨#[97, 98]⟩)] : List ByteArray).flatMap strE), own 115 7 v50 ms_.length (ms_.flatMap rowE)]) (fun jx => [SlAt 1 vv_ valsL.length (valsL.flatMap intE)]) rfl (by decide) rfl (fun jx => (List.Sublist.cons_cons _ (List.Sublist.cons_cons _ (List.Sublist.cons_cons _ List.Sublist.slnil)))) (fun jx r h => h) (fun A w M => Rets.mono (law5_sorts v50 ms_ (vSlice 7 ((i_) / 2) ms_.length (vCap v50) v50) ((ms_.drop ((i_) / 2)).take (ms_.length - ((i_) / 2))) (M.enterW0 ⟨((M.wideC0 3 rfl).imp fun _ h => own_slAt h), ((((M.wideC0 3 rfl).imp fun _ h => own_slAt h)).imp fun _ h => slat_sliceF rowE_len (l := (i_) / 2) (h := ms_.length) h (by omega) (by omega) (Nat.le_trans (by omega) (SlAt.cap h).1) (Nat.le_refl _)), trivial⟩)) (fun v_ w_ ⟨e_, m⟩ => ⟨(), e_, (M.leaveW0 m).sel (L' := [fl A, blk b48 (.cells #[(Value.string x46), (Value.int .i64 (↑((i_) % 3))), (Value.int .i64 (↑((i_ * 5) % 4))), (Value.int .i64 1), (Value.int .i64 0), (Value.int .i64 0), (Value.int .i64 0)] 115), own 9 1 (Value.slice (some ⟨b42, 0, none⟩) 4 4) (([(⟨#[]⟩), (⟨#[97]⟩), (⟨#[98]⟩), (⟨#[97, 98]⟩)] : List ByteArray).length) (([(⟨#[]⟩), (⟨#[97]⟩), (⟨#[98]⟩), (⟨#[97, 98]⟩)] : List ByteArray).flatMap strE), own 115 7 v50 ms_.length (ms_.flatMap rowE)]) [0, 1, 2, 3] rfl (by decide), fun b hb => M.keptW0 m (fl A) (List.mem_cons_self ..) b hb⟩)) (fun w => CallsF.func Try.en12 rfl) (fun jx v hp hin => ?_)
      replace hp := hp.symm; subst hp
      clear hin
      change TW _ _ _ _ _ _ _ _ (MemA _ _ _ [blk b48 (.cells #[(Value.string x46), (Value.int .i64 (↑((i_) % 3))), (Value.int .i64 (↑((i_ * 5) % 4))), (Value.int .i64 1), (Value.int .i64 0), (Value.int .i64 0), (Value.int .i64 0)] 115), own 9 1 (Value.slice (some ⟨b42, 0, none⟩) 4 4) (([(⟨#[]⟩), (⟨#[97]⟩), (⟨#[98]⟩), (⟨#[97, 98]⟩)] : List ByteArray).length) (([(⟨#[]⟩), (⟨#[97]⟩), (⟨#[98]⟩), (⟨#[97, 98]⟩)] : List ByteArray).flatMap strE), own 115 7 v50 ms_.length (ms_.flatMap rowE)] [SlAt 1 vv_ valsL.length (valsL.flatMap intE)])
      refine TW.pure (v := (Value.bool false)) rfl (by decide) (by decide) rfl (fun w => (Step.pure (by kernel_rfl))) ?_
      refine TW.pure (v := (Value.bool false)) rfl (by decide) (by decide) rfl (fun w => (Step.move rfl)) ?_
      refine TW.pure (v := v50) rfl (by decide) (by decide) rfl (fun w => (Step.move rfl)) ?_
      refine TW.pure (v := (Value.int .i64 ↑i_)) rfl (by decide) (by decide) rfl (fun w => (Step.move rfl)) ?_
      refine TW.pure (v := (vSlice 7 i_ ms_.length (vCap v50) v50)) rfl (by decide) (by decide) rfl (fun w => (Step.sliceFromP (l := i_) Try.un105 Try.el115.sized rfl rfl (by omega) hsh53 (by omega))) ?_
      refine TW.pure (v := v50) rfl (by decide) (by decide) rfl (fun w => (Step.move rfl)) ?_
      refine TW.pure (v := (vTake 1 v50)) rfl (by decide) (by decide) rfl (fun w => (Step.sliceToP (h := 1) Try.un105 Try.el115.sized rfl rfl rfl hsh53 (by obtain ⟨_, _, _, _⟩ := hsh53; omega))) ?_
      refine TW.callX (ι := Unit) (fun jx v_ => v_ = (Value.bool true)) (fun jx => [blk b48 (.cells #[(Value.string x46), (Value.int .i64 (↑((i_) % 3))), (Value.int .i64 (↑((i_ * 5) % 4))), (Value.int .i64 1), (Value.int .i64 0), (Value.int .i64 0), (Value.int .i64 0)] 115), own 9 1 (Value.slice (some ⟨b42, 0, none⟩) 4 4) (([(⟨#[]⟩), (⟨#[97]⟩), (⟨#[98]⟩), (⟨#[97, 98]⟩)] : List ByteArray).length) (([(⟨#[]⟩), (⟨#[97]⟩), (⟨#[98]⟩), (⟨#[97, 98]⟩)] : List ByteArray).flatMap strE), own 115 7 v50 ms_.length (ms_.flatMap rowE)]) (fun jx => [SlAt 1 vv_ valsL.length (valsL.flatMap intE)]) rfl (by decide) rfl (fun jx => (List.Sublist.cons_cons _ (List.Sublist.cons_cons _ (List.Sublist.cons_cons _ List.Sublist.slnil)))) (fun jx r h => h) (fun A w M => Rets.mono (law5_sorts (vSlice 7 i_ ms_.length (vCap v50) v50) ((ms_.drop i_).take (ms_.length - i_)) (vTake 1 v50) (ms_.take 1) (M.enterW0 ⟨((((M.wideC0 3 rfl).imp fun _ h => own_slAt h)).imp fun _ h => slat_sliceF rowE_len (l := i_) (h := ms_.length) h (by omega) (by omega) (Nat.le_trans (by omega) (SlAt.cap h).1) (Nat.le_refl _)), ((((M.wideC0 3 rfl).imp fun _ h => own_slAt h)).imp fun _ h => slat_take rowE_len h (by omega)), trivial⟩)) (fun v_ w_ ⟨e_, m⟩ => ⟨(), e_, (M.leaveW0 m).sel (L' := [fl A, blk b48 (.cells #[(Value.string x46), (Value.int .i64 (↑((i_) % 3))), (Value.int .i64 (↑((i_ * 5) % 4))), (Value.int .i64 1), (Value.int .i64 0), (Value.int .i64 0), (Value.int .i64 0)] 115), own 9 1 (Value.slice (some ⟨b42, 0, none⟩) 4 4) (([(⟨#[]⟩), (⟨#[97]⟩), (⟨#[98]⟩), (⟨#[97, 98]⟩)] : List ByteArray).length) (([(⟨#[]⟩), (⟨#[97]⟩), (⟨#[98]⟩), (⟨#[97, 98]⟩)] : List ByteArray).flatMap strE), own 115 7 v50 ms_.length (ms_.flatMap rowE)]) [0, 1, 2, 3] rfl (by decide), fun b hb => M.keptW0 m (fl A) (List.mem_cons_self ..) b hb⟩)) (fun w => CallsF.func Try.en12 rfl) (fun jx v hp hin => ?_)
      replace hp := hp.symm; subst hp
      clear hin
      change TW _ _ _ _ _ _ _ _ (MemA _ _ _ [blk b48 (.cells #[(Value.string x46), (Value.int .i64 (↑((i_) % 3))), (Value.int .i64 (↑((i_ * 5) % 4))), (Value.int .i64 1), (Value.int .i64 0), (Value.int .i64 0), (Value.int .i64 0)] 115), own 9 1 (Value.slice (some ⟨b42, 0, none⟩) 4 4) (([(⟨#[]⟩), (⟨#[97]⟩), (⟨#[98]⟩), (⟨#[97, 98]⟩)] : List ByteArray).length) (([(⟨#[]⟩), (⟨#[97]⟩), (⟨#[98]⟩), (⟨#[97, 98]⟩)] : List ByteArray).flatMap strE), own 115 7 v50 ms_.length (ms_.flatMap rowE)] [SlAt 1 vv_ valsL.length (valsL.flatMap intE)])
      refine TW.pure (v := (Value.bool false)) rfl (by decide) (by decide) rfl (fun w => (Step.pure (by kernel_rfl))) ?_
      refine TW.pure (v := (Value.bool false)) rfl (by decide) (by decide) rfl (fun w => (Step.pick (t := false) rfl rfl)) ?_
      refine TW.done (fun w54 M => ?_)
      refine W.cond (t := false) rfl (fun h => by cases h) (fun _ => ?_)
      refine W.skip ?_
      refine W.region rfl ?_
      refine WL.step (v := (Value.int .i64 ↑i_)) rfl (Step.move rfl) ?_
      refine WL.step (v := (Value.int .i64 (↑i_ + 1))) rfl (Step.add rfl rfl (wrap_i64 (by omega))) ?_
      refine WL.step (v := (Value.int .i64 (↑i_ + 1))) rfl (Step.assign rfl) ?_
      refine WL.nil ?_
      replace M := M.sel (L' := [own 115 7 v50 ms_.length (ms_.flatMap rowE)]) [2] rfl (by decide)
      exact ⟨_, (by omega), i_ + 1, _, ms_, ⟨(by omega), (by omega), rfl⟩, ⟨rfl, rfl, rfl, rfl⟩, M⟩
    ·
      have h41p := of_decide_eq_false h41
      refine W.exit ?_
      refine thn_exit ?_
      refine thn_exit ?_
      refine inBlk_hit ?_
      refine W.seq' ?_
      refine W.region rfl ?_
      refine WL.step (v := (Value.agg #[(Value.int .i64 0), (Value.int .i64 0), (Value.int .i64 0), (Value.int .i64 0)])) rfl (Step.pure (by kernel_rfl)) ?_
      refine WL.callX rfl (law5_tells (Value.slice none 0 0) ([] : List Int) (⟨0, 0, 0, 0⟩ : Agg5) 0 (by first | assumption | decide) (by first | assumption | decide) (by first | assumption | decide) (M.enterW0 ⟨(Sh.pure fun w => SlAt.nil 1 w), trivial⟩)) (CallsF.func Try.en74 rfl) ?_
      rintro _ w55 ⟨rfl, m⟩
      replace M := M.leaveW0 m
      clear m
      replace M : Mem _ _ _ [own 115 7 lv_ ls_.length (ls_.flatMap rowE)] [SlAt 1 vv_ valsL.length (valsL.flatMap intE)] _ := M
      refine WL.step (v := (Value.bool true)) rfl (Step.move rfl) ?_
      refine WL.callX rfl (law5_joins (Value.slice none 0 0) ([] : List Agg5) (by first | assumption | decide) (M.enterW0 ⟨(Sh.pure fun w => SlAt.nil 4 w), trivial⟩)) (CallsF.func Try.en75 rfl) ?_
      rintro _ w56 ⟨rfl, m⟩
      replace M := M.leaveW0 m
      clear m
      replace M : Mem _ _ _ [own 115 7 lv_ ls_.length (ls_.flatMap rowE)] [SlAt 1 vv_ valsL.length (valsL.flatMap intE)] _ := M
      refine WL.step (v := (Value.bool true)) rfl (Step.pick (t := true) rfl rfl) ?_
      refine WL.step (v := (Value.bool true)) rfl (Step.move rfl) ?_
      refine WL.callX rfl (law5_sorts (Value.slice none 0 0) ([] : List Row5) (Value.slice none 0 0) ([] : List Row5) (M.enterW0 ⟨(Sh.pure fun w => SlAt.nil 7 w), (Sh.pure fun w => SlAt.nil 7 w), trivial⟩)) (CallsF.func Try.en12 rfl) ?_
      rintro _ w57 ⟨rfl, m⟩
      replace M := M.leaveW0 m
      clear m
      replace M : Mem _ _ _ [own 115 7 lv_ ls_.length (ls_.flatMap rowE)] [SlAt 1 vv_ valsL.length (valsL.flatMap intE)] _ := M
      refine WL.step (v := (Value.bool true)) rfl (Step.pick (t := true) rfl rfl) ?_
      refine WL.step (v := (Value.bool true)) rfl (Step.move rfl) ?_
      refine WL.callX rfl (law5_parts (Value.slice none 0 0) ([] : List Int) 0 0 (by first | assumption | decide) (M.enterW0 ⟨(Sh.pure fun w => SlAt.nil 1 w), trivial⟩)) (CallsF.func Try.en13 rfl) ?_
      rintro _ w58 ⟨rfl, m⟩
      replace M := M.leaveW0 m
      clear m
      replace M : Mem _ _ _ [own 115 7 lv_ ls_.length (ls_.flatMap rowE)] [SlAt 1 vv_ valsL.length (valsL.flatMap intE)] _ := M
      refine WL.step (v := (Value.bool true)) rfl (Step.pick (t := true) rfl rfl) ?_
      refine WL.step (v := (Value.bool true)) rfl (Step.move rfl) ?_
      refine WL.callX rfl (law5_works  (M.enterW0 trivial)) (CallsF.func Try.en59 rfl) ?_
      rintro _ w59 ⟨rfl, m⟩
      replace M := M.leaveW0 m
      clear m
      replace M : Mem _ _ _ [own 115 7 lv_ ls_.length (ls_.flatMap rowE)] [SlAt 1 vv_ valsL.length (valsL.flatMap intE)] _ := M
      refine WL.step (v := (Value.bool true)) rfl (Step.pick (t := true) rfl rfl) ?_
      refine WL.step (v := (Value.bool true)) rfl (Step.assign rfl) ?_
      refine WL.nil ?_
      refine W.ret ?_
      refine ⟨.inl rfl, (Value.bool true), ?_, ?_⟩
      · exact ⟨rfl, (Res.r1 (show RV _ _ _ (.tmp 0) (Value.bool true) from by exact rfl))⟩
      refine ⟨?_, M.close [] rfl (by decide) trivial⟩
      rfl
end Go.Proofs
