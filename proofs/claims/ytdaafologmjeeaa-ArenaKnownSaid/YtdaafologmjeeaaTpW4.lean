/- Walks. -/
import Derived.Test.YtdaafologmjeeaaTpW3
import Derived.Test.YtdaafologmjeeaaTpLaw11
set_option maxRecDepth 100000
set_option linter.all false
namespace Go.Proofs
open Go Tp
theorem Try.en25 : Enters Try.prog 25 := fun _ _ => by kernel_rfl
theorem Try.en46 : Enters Try.prog 46 := fun _ _ => by kernel_rfl

theorem ref_make {G : Nat → Prop} {w : World} (v : Value) (xs : List RPlace) (kv : Value) (dv : Value) (vv : Value) (n : Nd) (hA : SmallA xs) (M : Mem G (fun _ => False) w [] [RepS RPlaceT v xs, SlAt 1 kv n.keys.length (n.keys.flatMap strE), SlAt 2 dv n.kids.length (n.kids.flatMap handleE), SlAt 1 vv n.vals.length (n.vals.flatMap intE)] w) : Rets Try.prog 37 #[(Value.agg #[v]), (Value.agg #[(Value.bool n.leaf), kv, dv, vv])] w fun r w' => ∃ (v' : Value), r = (Value.tuple #[(Value.agg #[v']), (Value.agg #[(Value.int .i64 (((rmake xs n).2).at_)), (Value.int .i64 (((rmake xs n).2).turn))])]) ∧ Mem G (fun _ => False) w [] [RepS RPlaceT v' ((rmake xs n).1)] w' := by
  refine Rets.enter 44 _ Try.func37 rfl Try.ntmps37 Try.results37 (by simp) ?_
  have hle1 := RepS.le' (M.rep 0 rfl)
  have hle2 := SlAt.le' (M.rep 1 rfl)
  have hle3 := SlAt.le' (M.rep 2 rfl)
  have hle4 := SlAt.le' (M.rep 3 rfl)
  have sl5 : IsSl v := RepS.isSl (Mem.rep M 0 rfl)
  have sl6 : IsSl kv := SlAt.isSl (Mem.rep M 1 rfl)
  have sl7 : IsSl dv := SlAt.isSl (Mem.rep M 2 rfl)
  have sl8 : IsSl vv := SlAt.isSl (Mem.rep M 3 rfl)
  have hA1 := hA.1
  obtain ⟨cs9, M⟩ := M.openS 0 rfl
  refine W.seq' ?_
  refine W.region rfl ?_
  refine WL.box (v := (Value.agg #[v])) (c := #[v]) M rfl rfl rfl (fun b10 w11 hb10 M => ?_)
  refine WL.box (v := (Value.agg #[(Value.bool n.leaf), kv, dv, vv])) (c := #[(Value.bool n.leaf), kv, dv, vv]) M rfl rfl rfl (fun b12 w13 hb12 M => ?_)
  refine WL.alloc (c := #[(Value.slice none 0 0)]) M rfl Try.el47.zero rfl (fun b14 w15 hb14 M => ?_)
  refine WL.alloc (c := #[(Value.int .i64 0), (Value.int .i64 0)]) M rfl Try.el61.zero rfl (fun b16 w17 hb16 M => ?_)
  refine WL.nil ?_
  refine W.seq' ?_
  refine W.region rfl ?_
  refine WL.step (v := (Value.int .i64 0)) rfl (Step.assign rfl) ?_
  refine WL.nil ?_
  refine W.seq' ?_
  refine W.block ?_
  refine W.loop (fun kk ρ w' => ∃ (i_ : Nat), ((i_ ≤ xs.length) ∧ (∀ j : Nat, j < i_ → isFree xs (j : Int) = false) ∧ kk = xs.length - i_) ∧ ρ.has [(2, (Value.pointer (some ⟨b10, 0, none⟩))), (3, (Value.pointer (some ⟨b12, 0, none⟩))), (4, (Value.pointer (some ⟨b14, 0, none⟩))), (5, (Value.pointer (some ⟨b16, 0, none⟩))), (6, (Value.int .i64 ↑i_))] ∧ Mem G (fun _ => False) w [blk b16 (.cells #[(Value.int .i64 0), (Value.int .i64 0)] 61), blk b14 (.cells #[(Value.slice none 0 0)] 47), blk b12 (.cells #[(Value.bool n.leaf), kv, dv, vv] 58), blk b10 (.cells #[v] 47)] [SlAt 6 v xs.length cs9, RepL RPlaceT cs9 xs, RepS RPlaceT v xs, SlAt 1 kv n.keys.length (n.keys.flatMap strE), SlAt 2 dv n.kids.length (n.kids.flatMap handleE), SlAt 1 vv n.vals.length (n.vals.flatMap intE)]  w') _ ⟨0, ⟨(Nat.zero_le _), (fun _ h => absurd h (Nat.not_lt_zero _)), rfl⟩, ⟨rfl, rfl, rfl, rfl, rfl, trivial⟩, M⟩ ?_
  rintro _ ρ19 w18 ⟨i_, ⟨hi20, hi21, rfl⟩, hρ, M⟩
  obtain ⟨ρ19, rfl⟩ := hρ.know
  clear hρ
  refine W.seq' ?_
  refine W.seq' ?_
  refine W.region rfl ?_
  refine WL.step (v := (Value.int .i64 ↑i_)) rfl (Step.move rfl) ?_
  refine WL.step (v := (Value.pointer (some ⟨b10, 0, none⟩))) rfl (Step.pure (by kernel_rfl)) ?_
  refine WL.step (v := v) rfl (Step.load1 Try.sc45 rfl ((M.cell 3 rfl 0).trans rfl)) ?_
  refine WL.step (v := (Value.int .i64 ↑xs.length)) rfl (Step.lenSl Try.un45 rfl (M.rep 0 rfl)) ?_
  refine WL.step (v := (Value.bool (decide ((↑i_ : Int) < (↑xs.length : Int))))) rfl (Step.pure (by kernel_rfl)) ?_
  refine WL.step (v := (Value.bool (decide ((↑i_ : Int) < (↑xs.length : Int))))) rfl (Step.move rfl) ?_
  rcases Bool.eq_false_or_eq_true (decide ((↑i_ : Int) < (↑xs.length : Int))) with h22 | h22
  ·
    have h22p := of_decide_eq_true h22
    rw [h22]
    refine WL.step (v := (Value.pointer (some ⟨b10, 0, none⟩))) rfl (Step.pure (by kernel_rfl)) ?_
    refine WL.step (v := v) rfl (Step.load1 Try.sc45 rfl ((M.cell 3 rfl 0).trans rfl)) ?_
    refine WL.step (v := (Value.int .i64 ↑i_)) rfl (Step.move rfl) ?_
    obtain ⟨cap24, hb23⟩ := SlAt.base (M.rep 0 rfl) (by omega)
    obtain ⟨p25, hp25⟩ := elem_of_lt (xs := xs) (i := i_) (by omega)
    obtain ⟨kv26, dv27, vv28, M⟩ := rplace_open M 0 1 rfl rfl rfl hp25
    obtain ⟨hs29, hs30, hs31, hs32, hs33⟩ := hA.2 _ _ hp25
    have sl34 : IsSl kv26 := SlAt.isSl (Mem.rep M 1 rfl)
    have sl35 : IsSl dv27 := SlAt.isSl (Mem.rep M 2 rfl)
    have sl36 : IsSl vv28 := SlAt.isSl (Mem.rep M 3 rfl)
    refine WL.step (v := (Value.pointer (some ⟨(sBlk v), sOff v + i_ * 6, none⟩))) rfl (Step.indexAddr (i := i_) (Try.un45).run Try.el93.sized rfl rfl (by omega) hb23 (by omega)) ?_
    refine WL.step (v := (Value.pointer (some ⟨(sBlk v), sOff v + i_ * 6, none⟩))) rfl (Step.pure (by kernel_rfl)) ?_
    refine WL.step (v := (Value.bool p25.used)) rfl (Step.loadE (k := 0) Try.sc4 (M.rep 0 rfl : EC _ _ _ _ _) (by decide) rfl rfl) ?_
    refine WL.step (v := (Value.bool p25.used)) rfl (Step.pick (t := true) rfl rfl) ?_
    refine WL.nil ?_
    refine W.cond (t := p25.used) rfl (fun h37 => ?_) (fun h37 => ?_)
    ·
      refine W.skip ?_
      refine W.block ?_
      refine W.region rfl ?_
      refine WL.step (v := (Value.int .i64 ↑i_)) rfl (Step.move rfl) ?_
      refine WL.step (v := (Value.int .i64 (↑i_ + 1))) rfl (Step.add rfl rfl (wrap_i64 (by omega))) ?_
      refine WL.step (v := (Value.int .i64 (↑i_ + 1))) rfl (Step.assign rfl) ?_
      refine WL.nil ?_
      have hs : ∀ j : Nat, j < i_ + 1 → isFree xs (j : Int) = false := fun j hj => (Nat.lt_succ_iff_lt_or_eq.1 hj).elim (hi21 j) fun e => by subst e; rw [isFree_at hp25]; simp [h37]
      replace M := M.sub (List.Sublist.refl _) (R' := [SlAt 6 v xs.length cs9, RepL RPlaceT cs9 xs, RepS RPlaceT v xs, SlAt 1 kv n.keys.length (n.keys.flatMap strE), SlAt 2 dv n.kids.length (n.kids.flatMap handleE), SlAt 1 vv n.vals.length (n.vals.flatMap intE)]) (fun r h => (List.mem_cons_of_mem _ (List.mem_cons_of_mem _ (List.mem_cons_of_mem _ (List.mem_cons_of_mem _ h)))))
      exact ⟨_, (by omega), i_ + 1, ⟨(by omega), hs, rfl⟩, ⟨rfl, rfl, rfl, rfl, rfl, trivial⟩, M⟩
    ·
      refine W.exit ?_
      refine thn_exit ?_
      refine thn_exit ?_
      refine inBlk_hit ?_
      refine W.seq' ?_
      refine W.region rfl ?_
      refine WL.step (v := (Value.int .i64 1)) rfl (Step.assign rfl) ?_
      refine WL.nil ?_
      refine W.seq' ?_
      refine W.seq' ?_
      refine W.region rfl ?_
      refine WL.step (v := (Value.int .i64 ↑i_)) rfl (Step.move rfl) ?_
      refine WL.step (v := (Value.pointer (some ⟨b10, 0, none⟩))) rfl (Step.pure (by kernel_rfl)) ?_
      refine WL.step (v := v) rfl (Step.load1 Try.sc45 rfl ((M.cell 3 rfl 0).trans rfl)) ?_
      refine WL.step (v := (Value.int .i64 ↑xs.length)) rfl (Step.lenSl Try.un45 rfl (M.rep 4 rfl)) ?_
      refine WL.step (v := (Value.bool true)) rfl (Step.cast (congrArg Value.bool h22) (Step.pure (by kernel_rfl))) ?_
      refine WL.nil ?_
      refine W.cond (t := true) rfl (fun _ => ?_) (fun h => by cases h)
      refine W.region rfl ?_
      refine WL.step (v := (Value.pointer (some ⟨b10, 0, none⟩))) rfl (Step.pure (by kernel_rfl)) ?_
      refine WL.step (v := v) rfl (Step.load1 Try.sc45 rfl ((M.cell 3 rfl 0).trans rfl)) ?_
      refine WL.step (v := (Value.int .i64 ↑i_)) rfl (Step.move rfl) ?_
      refine WL.step (v := (Value.pointer (some ⟨(sBlk v), sOff v + i_ * 6, none⟩))) rfl (Step.indexAddr (i := i_) (Try.un45).run Try.el93.sized rfl rfl (by omega) hb23 (by omega)) ?_
      refine WL.step (v := (Value.pointer (some ⟨(sBlk v), sOff v + i_ * 6 + 1, none⟩))) rfl (Step.pure (by kernel_rfl)) ?_
      refine WL.step (v := (Value.int .i64 p25.turn)) rfl (Step.loadE (k := 1) Try.sc3 (M.rep 0 rfl : EC _ _ _ _ _) (by decide) rfl rfl) ?_
      refine WL.step (v := (Value.int .i64 (p25.turn + 1))) rfl (Step.add rfl rfl (wrap_i64 (by omega))) ?_
      refine WL.step (v := (Value.int .i64 (p25.turn + 1))) rfl (Step.assign rfl) ?_
      refine WL.nil ?_
      refine W.seq' ?_
      refine W.region rfl ?_
      refine WL.step (v := (Value.agg #[v])) rfl (Step.loadN Try.ag47 rfl (M.blk 3 rfl) (Nat.le_of_ble_eq_true rfl) rfl) ?_
      refine WL.step (v := (Value.int .i64 ↑i_)) rfl (Step.move rfl) ?_
      refine WL.step (v := (Value.int .i64 (p25.turn + 1))) rfl (Step.move rfl) ?_
      refine WL.step (v := (Value.agg #[(Value.bool n.leaf), kv, dv, vv])) rfl (Step.loadN Try.ag58 rfl (M.blk 2 rfl) (Nat.le_of_ble_eq_true rfl) rfl) ?_
      refine WL.step (v := (Value.agg #[(Value.bool true), (Value.int .i64 (p25.turn + 1)), (Value.bool n.leaf), kv, dv, vv])) rfl (Step.pure (by kernel_rfl)) ?_
      refine WL.callX rfl (ref_with v xs ↑i_ true (p25.turn + 1) kv dv vv n (by omega) (by omega) (M.enter0 ⟨(M.shr' 6 rfl), (M.shr' 7 rfl), (M.shr' 8 rfl), (M.shr' 9 rfl), trivial⟩)) (CallsF.func Try.en46 rfl) ?_
      rintro _ w39 ⟨v38, rfl, m⟩
      replace M := M.leave0 m
      clear m
      replace M : Mem _ _ _ [blk b16 (.cells #[(Value.int .i64 0), (Value.int .i64 0)] 61), blk b14 (.cells #[(Value.slice none 0 0)] 47), blk b12 (.cells #[(Value.bool n.leaf), kv, dv, vv] 58), blk b10 (.cells #[v] 47)] [RepS RPlaceT v38 (rwith xs ↑i_ ⟨true, (p25.turn + 1), n⟩), EC v 6 i_ [(Value.bool p25.used), (Value.int .i64 p25.turn), (Value.bool p25.node.leaf), kv26, dv27, vv28], SlAt 1 kv26 p25.node.keys.length (p25.node.keys.flatMap strE), SlAt 2 dv27 p25.node.kids.length (p25.node.kids.flatMap handleE), SlAt 1 vv28 p25.node.vals.length (p25.node.vals.flatMap intE), SlAt 6 v xs.length cs9, RepL RPlaceT cs9 xs, RepS RPlaceT v xs, SlAt 1 kv n.keys.length (n.keys.flatMap strE), SlAt 2 dv n.kids.length (n.kids.flatMap handleE), SlAt 1 vv n.vals.length (n.vals.flatMap intE)] _ := M
      have sl40 : IsSl v38 := RepS.isSl (Mem.rep M 0 rfl)
      have hle41 := RepS.le' (M.rep 0 rfl)
      refine WL.step (v := (Value.int .i64 ↑i_)) rfl (Step.move rfl) ?_
      refine WL.step (v := (Value.int .i64 (p25.turn + 1))) rfl (Step.move rfl) ?_
      refine WL.step (v := (Value.agg #[(Value.int .i64 ↑i_), (Value.int .i64 (p25.turn + 1))])) rfl (Step.pure (by kernel_rfl)) ?_
      refine WL.store (v := (Value.agg #[v38])) (cs := [v38]) (c' := #[v38]) M 1 rfl rfl Try.el47.sized rfl rfl rfl rfl (Nat.le_of_ble_eq_true rfl) (cel_cons (IsSl.cel sl40) cel_nil) rfl rfl (fun w42 M => ?_)
      refine WL.store (v := (Value.agg #[(Value.int .i64 ↑i_), (Value.int .i64 (p25.turn + 1))])) (cs := [(Value.int .i64 ↑i_), (Value.int .i64 (p25.turn + 1))]) (c' := #[(Value.int .i64 ↑i_), (Value.int .i64 (p25.turn + 1))]) M 0 rfl rfl Try.el61.sized rfl rfl rfl rfl (Nat.le_of_ble_eq_true rfl) (cel_cons rfl (cel_cons rfl cel_nil)) rfl rfl (fun w43 M => ?_)
      refine WL.nil ?_
      refine W.ret ?_
      refine ⟨.inl rfl, (Value.tuple #[(Value.agg #[v38]), (Value.agg #[(Value.int .i64 ↑i_), (Value.int .i64 (p25.turn + 1))])]), ?_, ?_⟩
      · exact (Res.r2 (RV.cellN Try.ag47 rfl (M.blk 1 rfl) rfl) (RV.cellN Try.ag61 rfl (M.blk 0 rfl) rfl))
      have hl : leastF xs = i_ := leastF_hit (by omega) (by rw [isFree_at hp25]; simp [h22, h37]) hi21
      have hm := rwith_make xs n (p25.turn + 1) (by rw [hl, hp25])
      rw [hl] at hm
      rw [← hm.1, ← hm.2]
      exact ⟨_, rfl, M.close [] rfl (by decide) ⟨M.shr' 0 rfl, trivial⟩⟩
  ·
    have h22p := of_decide_eq_false h22
    rw [h22]
    refine WL.pass rfl ?_
    refine WL.pass rfl ?_
    refine WL.pass rfl ?_
    refine WL.pass rfl ?_
    refine WL.pass rfl ?_
    refine WL.pass rfl ?_
    refine WL.step (v := (Value.bool false)) rfl (Step.pick (t := false) rfl rfl) ?_
    refine WL.nil ?_
    refine W.cond (t := false) rfl (fun h => by cases h) (fun _ => ?_)
    refine W.exit ?_
    refine thn_exit ?_
    refine thn_exit ?_
    refine inBlk_hit ?_
    refine W.seq' ?_
    refine W.region rfl ?_
    refine WL.step (v := (Value.int .i64 1)) rfl (Step.assign rfl) ?_
    refine WL.nil ?_
    refine W.seq' ?_
    refine W.seq' ?_
    refine W.region rfl ?_
    refine WL.step (v := (Value.int .i64 ↑i_)) rfl (Step.move rfl) ?_
    refine WL.step (v := (Value.pointer (some ⟨b10, 0, none⟩))) rfl (Step.pure (by kernel_rfl)) ?_
    refine WL.step (v := v) rfl (Step.load1 Try.sc45 rfl ((M.cell 3 rfl 0).trans rfl)) ?_
    refine WL.step (v := (Value.int .i64 ↑xs.length)) rfl (Step.lenSl Try.un45 rfl (M.rep 0 rfl)) ?_
    refine WL.step (v := (Value.bool false)) rfl (Step.cast (congrArg Value.bool h22) (Step.pure (by kernel_rfl))) ?_
    refine WL.nil ?_
    refine W.cond (t := false) rfl (fun h => by cases h) (fun _ => ?_)
    refine W.skip ?_
    refine W.seq' ?_
    refine W.region rfl ?_
    refine WL.step (v := (Value.agg #[v])) rfl (Step.loadN Try.ag47 rfl (M.blk 3 rfl) (Nat.le_of_ble_eq_true rfl) rfl) ?_
    refine WL.step (v := (Value.int .i64 ↑i_)) rfl (Step.move rfl) ?_
    refine WL.step (v := (Value.int .i64 1)) rfl (Step.move rfl) ?_
    refine WL.step (v := (Value.agg #[(Value.bool n.leaf), kv, dv, vv])) rfl (Step.loadN Try.ag58 rfl (M.blk 2 rfl) (Nat.le_of_ble_eq_true rfl) rfl) ?_
    refine WL.step (v := (Value.agg #[(Value.bool true), (Value.int .i64 1), (Value.bool n.leaf), kv, dv, vv])) rfl (Step.pure (by kernel_rfl)) ?_
    refine WL.callX rfl (ref_with v xs ↑i_ true 1 kv dv vv n (by omega) (by omega) (M.enter0 ⟨(M.shr' 2 rfl), (M.shr' 3 rfl), (M.shr' 4 rfl), (M.shr' 5 rfl), trivial⟩)) (CallsF.func Try.en46 rfl) ?_
    rintro _ w45 ⟨v44, rfl, m⟩
    replace M := M.leave0 m
    clear m
    replace M : Mem _ _ _ [blk b16 (.cells #[(Value.int .i64 0), (Value.int .i64 0)] 61), blk b14 (.cells #[(Value.slice none 0 0)] 47), blk b12 (.cells #[(Value.bool n.leaf), kv, dv, vv] 58), blk b10 (.cells #[v] 47)] [RepS RPlaceT v44 (rwith xs ↑i_ ⟨true, 1, n⟩), SlAt 6 v xs.length cs9, RepL RPlaceT cs9 xs, RepS RPlaceT v xs, SlAt 1 kv n.keys.length (n.keys.flatMap strE), SlAt 2 dv n.kids.length (n.kids.flatMap handleE), SlAt 1 vv n.vals.length (n.vals.flatMap intE)] _ := M
    have sl46 : IsSl v44 := RepS.isSl (Mem.rep M 0 rfl)
    have hle47 := RepS.le' (M.rep 0 rfl)
    refine WL.step (v := (Value.int .i64 ↑i_)) rfl (Step.move rfl) ?_
    refine WL.step (v := (Value.int .i64 1)) rfl (Step.move rfl) ?_
    refine WL.step (v := (Value.agg #[(Value.int .i64 ↑i_), (Value.int .i64 1)])) rfl (Step.pure (by kernel_rfl)) ?_
    refine WL.store (v := (Value.agg #[v44])) (cs := [v44]) (c' := #[v44]) M 1 rfl rfl Try.el47.sized rfl rfl rfl rfl (Nat.le_of_ble_eq_true rfl) (cel_cons (IsSl.cel sl46) cel_nil) rfl rfl (fun w48 M => ?_)
    refine WL.store (v := (Value.agg #[(Value.int .i64 ↑i_), (Value.int .i64 1)])) (cs := [(Value.int .i64 ↑i_), (Value.int .i64 1)]) (c' := #[(Value.int .i64 ↑i_), (Value.int .i64 1)]) M 0 rfl rfl Try.el61.sized rfl rfl rfl rfl (Nat.le_of_ble_eq_true rfl) (cel_cons rfl (cel_cons rfl cel_nil)) rfl rfl (fun w49 M => ?_)
    refine WL.nil ?_
    refine W.ret ?_
    refine ⟨.inl rfl, (Value.tuple #[(Value.agg #[v44]), (Value.agg #[(Value.int .i64 ↑i_), (Value.int .i64 1)])]), ?_, ?_⟩
    · exact (Res.r2 (RV.cellN Try.ag47 rfl (M.blk 1 rfl) rfl) (RV.cellN Try.ag61 rfl (M.blk 0 rfl) rfl))
    have hl : leastF xs = i_ := by rw [leastF_all hi21 (by omega)]; omega
    have hm := rwith_make xs n 1 (by rw [hl, List.getElem?_eq_none (by omega)])
    rw [hl] at hm
    rw [← hm.1, ← hm.2]
    exact ⟨_, rfl, M.close [] rfl (by decide) ⟨M.shr' 0 rfl, trivial⟩⟩

theorem ref_get {G : Nat → Prop} {w : World} (v : Value) (xs : List RPlace) (h : Handle)  (M : Mem G (fun _ => False) w [] [RepS RPlaceT v xs] w) : Rets Try.prog 21 #[(Value.agg #[v]), (Value.agg #[(Value.int .i64 h.at_), (Value.int .i64 h.turn)])] w fun r w' => ∃ (kv' : Value) (dv' : Value) (vv' : Value), r = (Value.tuple #[(Value.agg #[(Value.bool (((rget xs h).1).leaf)), kv', dv', vv']), (Value.int .i64 ((rget xs h).2))]) ∧ Mem G (fun _ => False) w [] [SlAt 1 kv' (((rget xs h).1).keys).length ((((rget xs h).1).keys).flatMap strE), SlAt 2 dv' (((rget xs h).1).kids).length ((((rget xs h).1).kids).flatMap handleE), SlAt 1 vv' (((rget xs h).1).vals).length ((((rget xs h).1).vals).flatMap intE)] w' := by
  refine Rets.enter 18 _ Try.func21 rfl Try.ntmps21 Try.results21 (by simp) ?_
  have hle1 := RepS.le' (M.rep 0 rfl)
  have sl2 : IsSl v := RepS.isSl (Mem.rep M 0 rfl)
  obtain ⟨cs3, M⟩ := M.openS 0 rfl
  rcases Bool.eq_false_or_eq_true (rhas xs h) with hh | hh
  ·
    obtain ⟨p, hp, hu, ht, h0, hlt⟩ := rhas_place hh
    refine W.seq' ?_
    refine W.region rfl ?_
    refine WL.box (v := (Value.agg #[v])) (c := #[v]) M rfl rfl rfl (fun b4 w5 hb4 M => ?_)
    refine WL.box (v := (Value.agg #[(Value.int .i64 h.at_), (Value.int .i64 h.turn)])) (c := #[(Value.int .i64 h.at_), (Value.int .i64 h.turn)]) M rfl rfl rfl (fun b6 w7 hb6 M => ?_)
    refine WL.alloc (c := #[(Value.bool false), (Value.slice none 0 0), (Value.slice none 0 0), (Value.slice none 0 0)]) M rfl Try.el58.zero rfl (fun b8 w9 hb8 M => ?_)
    refine WL.step (v := (Value.int .i64 0)) rfl (Step.assign rfl) ?_
    refine WL.nil ?_
    refine W.seq' ?_
    refine W.seq' ?_
    refine W.region rfl ?_
    refine WL.step (v := (Value.agg #[v])) rfl (Step.loadN Try.ag47 rfl (M.blk 2 rfl) (Nat.le_of_ble_eq_true rfl) rfl) ?_
    refine WL.step (v := (Value.agg #[(Value.int .i64 h.at_), (Value.int .i64 h.turn)])) rfl (Step.loadN Try.ag61 rfl (M.blk 1 rfl) (Nat.le_of_ble_eq_true rfl) rfl) ?_
    refine WL.callX rfl (ref_has v xs h (M.enterW0 ⟨(M.wideR0 2 rfl), trivial⟩)) (CallsF.func Try.en25 rfl) ?_
    rintro _ w10 ⟨rfl, m⟩
    replace M := M.leaveW0 m
    clear m
    replace M : Mem _ _ _ [blk b8 (.cells #[(Value.bool false), (Value.slice none 0 0), (Value.slice none 0 0), (Value.slice none 0 0)] 58), blk b6 (.cells #[(Value.int .i64 h.at_), (Value.int .i64 h.turn)] 61), blk b4 (.cells #[v] 47)] [SlAt 6 v xs.length cs3, RepL RPlaceT cs3 xs, RepS RPlaceT v xs] _ := M
    rw [hh]
    refine WL.step (v := (Value.bool false)) rfl (Step.pure (by kernel_rfl)) ?_
    refine WL.nil ?_
    refine W.cond (t := false) rfl (fun h => by cases h) (fun _ => ?_)
    refine W.skip ?_
    refine W.seq' ?_
    refine W.region rfl ?_
    refine WL.step (v := (Value.pointer (some ⟨b4, 0, none⟩))) rfl (Step.pure (by kernel_rfl)) ?_
    refine WL.step (v := v) rfl (Step.load1 Try.sc45 rfl ((M.cell 2 rfl 0).trans rfl)) ?_
    refine WL.step (v := (Value.pointer (some ⟨b6, 0, none⟩))) rfl (Step.pure (by kernel_rfl)) ?_
    refine WL.step (v := (Value.int .i64 h.at_)) rfl (Step.load1 Try.sc3 rfl ((M.cell 1 rfl 0).trans rfl)) ?_
    obtain ⟨cap12, hb11⟩ := SlAt.base (M.rep 0 rfl) (by omega)
    obtain ⟨kv14, dv15, vv16, M⟩ := rplace_open M 0 1 rfl rfl rfl hp
    have sl17 : IsSl kv14 := SlAt.isSl (Mem.rep M 1 rfl)
    have sl18 : IsSl dv15 := SlAt.isSl (Mem.rep M 2 rfl)
    have sl19 : IsSl vv16 := SlAt.isSl (Mem.rep M 3 rfl)
    refine WL.step (v := (Value.pointer (some ⟨(sBlk v), sOff v + h.at_.toNat * 6, none⟩))) rfl (Step.indexAddr (i := h.at_.toNat) (Try.un45).run Try.el93.sized rfl rfl (by omega) hb11 (by omega)) ?_
    refine WL.step (v := (Value.pointer (some ⟨(sBlk v), sOff v + h.at_.toNat * 6 + 2, none⟩))) rfl (Step.pure (by kernel_rfl)) ?_
    refine WL.step (v := (Value.agg #[(Value.bool p.node.leaf), kv14, dv15, vv16])) rfl (Step.loadEN (k := 2) (cs' := [(Value.bool p.node.leaf), kv14, dv15, vv16]) Try.ag58 (M.rep 0 rfl : EC _ _ _ _ _) (by decide) rfl rfl rfl) ?_
    refine WL.store (v := (Value.agg #[(Value.bool p.node.leaf), kv14, dv15, vv16])) (cs := [(Value.bool p.node.leaf), kv14, dv15, vv16]) (c' := #[(Value.bool p.node.leaf), kv14, dv15, vv16]) M 0 rfl rfl Try.el58.sized rfl rfl rfl rfl (Nat.le_of_ble_eq_true rfl) (cel_cons rfl (cel_cons (IsSl.cel sl17) (cel_cons (IsSl.cel sl18) (cel_cons (IsSl.cel sl19) cel_nil)))) rfl rfl (fun w20 M => ?_)
    refine WL.step (v := (Value.int .i64 0)) rfl (Step.assign rfl) ?_
    refine WL.nil ?_
    refine W.ret ?_
    refine ⟨.inl rfl, (Value.tuple #[(Value.agg #[(Value.bool p.node.leaf), kv14, dv15, vv16]), (Value.int .i64 0)]), ?_, ?_⟩
    · exact (Res.r2 (RV.cellN Try.ag58 rfl (M.blk 0 rfl) rfl) (show RV _ _ _ (.tmp 5) (Value.int .i64 0) from by exact rfl))
    have e21 : ((rget xs h).1).keys = p.node.keys := by
      first | (rw [rget_hit hh hp]) | (rw [rget_miss hh]) | (simp [rget_miss hh, ndZero])
      try rfl
    have hf22 := M.shr' 1 rfl
    rw [← e21] at hf22
    have e23 : ((rget xs h).1).kids = p.node.kids := by
      first | (rw [rget_hit hh hp]) | (rw [rget_miss hh]) | (simp [rget_miss hh, ndZero])
      try rfl
    have hf24 := M.shr' 2 rfl
    rw [← e23] at hf24
    have e25 : ((rget xs h).1).vals = p.node.vals := by
      first | (rw [rget_hit hh hp]) | (rw [rget_miss hh]) | (simp [rget_miss hh, ndZero])
      try rfl
    have hf26 := M.shr' 3 rfl
    rw [← e25] at hf26
    refine ⟨kv14, dv15, vv16, ?_, M.close [] rfl (by decide) ⟨hf22, hf24, hf26, trivial⟩⟩
    first | (rw [rget_hit hh hp]) | (rw [rget_miss hh]) | (simp [rget_miss hh, ndZero])
    try rfl
  ·
    refine W.seq' ?_
    refine W.region rfl ?_
    refine WL.box (v := (Value.agg #[v])) (c := #[v]) M rfl rfl rfl (fun b27 w28 hb27 M => ?_)
    refine WL.box (v := (Value.agg #[(Value.int .i64 h.at_), (Value.int .i64 h.turn)])) (c := #[(Value.int .i64 h.at_), (Value.int .i64 h.turn)]) M rfl rfl rfl (fun b29 w30 hb29 M => ?_)
    refine WL.alloc (c := #[(Value.bool false), (Value.slice none 0 0), (Value.slice none 0 0), (Value.slice none 0 0)]) M rfl Try.el58.zero rfl (fun b31 w32 hb31 M => ?_)
    refine WL.step (v := (Value.int .i64 0)) rfl (Step.assign rfl) ?_
    refine WL.nil ?_
    refine W.seq' ?_
    refine W.seq' ?_
    refine W.region rfl ?_
    refine WL.step (v := (Value.agg #[v])) rfl (Step.loadN Try.ag47 rfl (M.blk 2 rfl) (Nat.le_of_ble_eq_true rfl) rfl) ?_
    refine WL.step (v := (Value.agg #[(Value.int .i64 h.at_), (Value.int .i64 h.turn)])) rfl (Step.loadN Try.ag61 rfl (M.blk 1 rfl) (Nat.le_of_ble_eq_true rfl) rfl) ?_
    refine WL.callX rfl (ref_has v xs h (M.enterW0 ⟨(M.wideR0 2 rfl), trivial⟩)) (CallsF.func Try.en25 rfl) ?_
    rintro _ w33 ⟨rfl, m⟩
    replace M := M.leaveW0 m
    clear m
    replace M : Mem _ _ _ [blk b31 (.cells #[(Value.bool false), (Value.slice none 0 0), (Value.slice none 0 0), (Value.slice none 0 0)] 58), blk b29 (.cells #[(Value.int .i64 h.at_), (Value.int .i64 h.turn)] 61), blk b27 (.cells #[v] 47)] [SlAt 6 v xs.length cs3, RepL RPlaceT cs3 xs, RepS RPlaceT v xs] _ := M
    rw [hh]
    refine WL.step (v := (Value.bool true)) rfl (Step.pure (by kernel_rfl)) ?_
    refine WL.nil ?_
    refine W.cond (t := true) rfl (fun _ => ?_) (fun h => by cases h)
    refine W.seq' ?_
    refine W.region rfl ?_
    refine WL.step (v := (Value.agg #[(Value.bool false), (Value.slice none 0 0), (Value.slice none 0 0), (Value.slice none 0 0)])) rfl (Step.pure (by kernel_rfl)) ?_
    refine WL.store (v := (Value.agg #[(Value.bool false), (Value.slice none 0 0), (Value.slice none 0 0), (Value.slice none 0 0)])) (cs := [(Value.bool false), (Value.slice none 0 0), (Value.slice none 0 0), (Value.slice none 0 0)]) (c' := #[(Value.bool false), (Value.slice none 0 0), (Value.slice none 0 0), (Value.slice none 0 0)]) M 0 rfl rfl Try.el58.sized rfl rfl rfl rfl (Nat.le_of_ble_eq_true rfl) (cel_cons rfl (cel_cons rfl (cel_cons rfl (cel_cons rfl cel_nil)))) rfl rfl (fun w34 M => ?_)
    refine WL.step (v := (Value.int .i64 110)) rfl (Step.assign rfl) ?_
    refine WL.nil ?_
    refine W.ret ?_
    refine ⟨.inl rfl, (Value.tuple #[(Value.agg #[(Value.bool false), (Value.slice none 0 0), (Value.slice none 0 0), (Value.slice none 0 0)]), (Value.int .i64 110)]), ?_, ?_⟩
    · exact (Res.r2 (RV.cellN Try.ag58 rfl (M.blk 0 rfl) rfl) (show RV _ _ _ (.tmp 5) (Value.int .i64 110) from by exact rfl))
    have e35 : ((rget xs h).1).keys = [] := by
      first | (rw [rget_hit hh hp]) | (rw [rget_miss hh]) | (simp [rget_miss hh, ndZero])
      try rfl
    have e36 : ((rget xs h).1).kids = [] := by
      first | (rw [rget_hit hh hp]) | (rw [rget_miss hh]) | (simp [rget_miss hh, ndZero])
      try rfl
    have e37 : ((rget xs h).1).vals = [] := by
      first | (rw [rget_hit hh hp]) | (rw [rget_miss hh]) | (simp [rget_miss hh, ndZero])
      try rfl
    refine ⟨(Value.slice none 0 0), (Value.slice none 0 0), (Value.slice none 0 0), ?_, M.close [] rfl (by decide) ⟨(Sh.pure fun _ => by rw [e35]; exact SlAt.nil 1 _), (Sh.pure fun _ => by rw [e36]; exact SlAt.nil 2 _), (Sh.pure fun _ => by rw [e37]; exact SlAt.nil 1 _), trivial⟩⟩
    first | (rw [rget_hit hh hp]) | (rw [rget_miss hh]) | (simp [rget_miss hh, ndZero])
    try rfl

theorem ref_put {G : Nat → Prop} {w : World} (v : Value) (xs : List RPlace) (h : Handle) (kv : Value) (dv : Value) (vv : Value) (n : Nd) (hA : SmallA xs) (M : Mem G (fun _ => False) w [] [RepS RPlaceT v xs, SlAt 1 kv n.keys.length (n.keys.flatMap strE), SlAt 2 dv n.kids.length (n.kids.flatMap handleE), SlAt 1 vv n.vals.length (n.vals.flatMap intE)] w) : Rets Try.prog 34 #[(Value.agg #[v]), (Value.agg #[(Value.int .i64 h.at_), (Value.int .i64 h.turn)]), (Value.agg #[(Value.bool n.leaf), kv, dv, vv])] w fun r w' => ∃ (v' : Value), r = (Value.tuple #[(Value.agg #[v']), (Value.int .i64 ((rput xs h n).2))]) ∧ Mem G (fun _ => False) w [] [RepS RPlaceT v' ((rput xs h n).1)] w' := by
  refine Rets.enter 21 _ Try.func34 rfl Try.ntmps34 Try.results34 (by simp) ?_
  have hle1 := RepS.le' (M.rep 0 rfl)
  have hle2 := SlAt.le' (M.rep 1 rfl)
  have hle3 := SlAt.le' (M.rep 2 rfl)
  have hle4 := SlAt.le' (M.rep 3 rfl)
  have sl5 : IsSl v := RepS.isSl (Mem.rep M 0 rfl)
  have sl6 : IsSl kv := SlAt.isSl (Mem.rep M 1 rfl)
  have sl7 : IsSl dv := SlAt.isSl (Mem.rep M 2 rfl)
  have sl8 : IsSl vv := SlAt.isSl (Mem.rep M 3 rfl)
  have hA1 := hA.1
  obtain ⟨cs9, M⟩ := M.openS 0 rfl
  rcases Bool.eq_false_or_eq_true (rhas xs h) with hh | hh
  ·
    obtain ⟨p, hp, hu, ht, h0, hlt⟩ := rhas_place hh
    refine W.seq' ?_
    refine W.region rfl ?_
    refine WL.box (v := (Value.agg #[v])) (c := #[v]) M rfl rfl rfl (fun b10 w11 hb10 M => ?_)
    refine WL.box (v := (Value.agg #[(Value.int .i64 h.at_), (Value.int .i64 h.turn)])) (c := #[(Value.int .i64 h.at_), (Value.int .i64 h.turn)]) M rfl rfl rfl (fun b12 w13 hb12 M => ?_)
    refine WL.box (v := (Value.agg #[(Value.bool n.leaf), kv, dv, vv])) (c := #[(Value.bool n.leaf), kv, dv, vv]) M rfl rfl rfl (fun b14 w15 hb14 M => ?_)
    refine WL.alloc (c := #[(Value.slice none 0 0)]) M rfl Try.el47.zero rfl (fun b16 w17 hb16 M => ?_)
    refine WL.step (v := (Value.int .i64 0)) rfl (Step.assign rfl) ?_
    refine WL.nil ?_
    refine W.seq' ?_
    refine W.seq' ?_
    refine W.region rfl ?_
    refine WL.step (v := (Value.agg #[v])) rfl (Step.loadN Try.ag47 rfl (M.blk 3 rfl) (Nat.le_of_ble_eq_true rfl) rfl) ?_
    refine WL.step (v := (Value.agg #[(Value.int .i64 h.at_), (Value.int .i64 h.turn)])) rfl (Step.loadN Try.ag61 rfl (M.blk 2 rfl) (Nat.le_of_ble_eq_true rfl) rfl) ?_
    refine WL.callX rfl (ref_has v xs h (M.enterW0 ⟨(M.wideR0 2 rfl), trivial⟩)) (CallsF.func Try.en25 rfl) ?_
    rintro _ w18 ⟨rfl, m⟩
    replace M := M.leaveW0 m
    clear m
    replace M : Mem _ _ _ [blk b16 (.cells #[(Value.slice none 0 0)] 47), blk b14 (.cells #[(Value.bool n.leaf), kv, dv, vv] 58), blk b12 (.cells #[(Value.int .i64 h.at_), (Value.int .i64 h.turn)] 61), blk b10 (.cells #[v] 47)] [SlAt 6 v xs.length cs9, RepL RPlaceT cs9 xs, RepS RPlaceT v xs, SlAt 1 kv n.keys.length (n.keys.flatMap strE), SlAt 2 dv n.kids.length (n.kids.flatMap handleE), SlAt 1 vv n.vals.length (n.vals.flatMap intE)] _ := M
    rw [hh]
    refine WL.step (v := (Value.bool false)) rfl (Step.pure (by kernel_rfl)) ?_
    refine WL.nil ?_
    refine W.cond (t := false) rfl (fun h => by cases h) (fun _ => ?_)
    refine W.skip ?_
    refine W.seq' ?_
    refine W.region rfl ?_
    refine WL.step (v := (Value.agg #[v])) rfl (Step.loadN Try.ag47 rfl (M.blk 3 rfl) (Nat.le_of_ble_eq_true rfl) rfl) ?_
    refine WL.step (v := (Value.pointer (some ⟨b12, 0, none⟩))) rfl (Step.pure (by kernel_rfl)) ?_
    refine WL.step (v := (Value.int .i64 h.at_)) rfl (Step.load1 Try.sc3 rfl ((M.cell 2 rfl 0).trans rfl)) ?_
    refine WL.step (v := (Value.pointer (some ⟨b12, 1, none⟩))) rfl (Step.pure (by kernel_rfl)) ?_
    refine WL.step (v := (Value.int .i64 h.turn)) rfl (Step.load1 Try.sc3 rfl ((M.cell 2 rfl 1).trans rfl)) ?_
    refine WL.step (v := (Value.agg #[(Value.bool n.leaf), kv, dv, vv])) rfl (Step.loadN Try.ag58 rfl (M.blk 1 rfl) (Nat.le_of_ble_eq_true rfl) rfl) ?_
    refine WL.step (v := (Value.agg #[(Value.bool true), (Value.int .i64 h.turn), (Value.bool n.leaf), kv, dv, vv])) rfl (Step.pure (by kernel_rfl)) ?_
    refine WL.callX rfl (ref_with v xs h.at_ true h.turn kv dv vv n (by omega) (by omega) (M.enter0 ⟨(M.shr' 2 rfl), (M.shr' 3 rfl), (M.shr' 4 rfl), (M.shr' 5 rfl), trivial⟩)) (CallsF.func Try.en46 rfl) ?_
    rintro _ w20 ⟨v19, rfl, m⟩
    replace M := M.leave0 m
    clear m
    replace M : Mem _ _ _ [blk b16 (.cells #[(Value.slice none 0 0)] 47), blk b14 (.cells #[(Value.bool n.leaf), kv, dv, vv] 58), blk b12 (.cells #[(Value.int .i64 h.at_), (Value.int .i64 h.turn)] 61), blk b10 (.cells #[v] 47)] [RepS RPlaceT v19 (rwith xs h.at_ ⟨true, h.turn, n⟩), SlAt 6 v xs.length cs9, RepL RPlaceT cs9 xs, RepS RPlaceT v xs, SlAt 1 kv n.keys.length (n.keys.flatMap strE), SlAt 2 dv n.kids.length (n.kids.flatMap handleE), SlAt 1 vv n.vals.length (n.vals.flatMap intE)] _ := M
    have sl21 : IsSl v19 := RepS.isSl (Mem.rep M 0 rfl)
    have hle22 := RepS.le' (M.rep 0 rfl)
    refine WL.store (v := (Value.agg #[v19])) (cs := [v19]) (c' := #[v19]) M 0 rfl rfl Try.el47.sized rfl rfl rfl rfl (Nat.le_of_ble_eq_true rfl) (cel_cons (IsSl.cel sl21) cel_nil) rfl rfl (fun w23 M => ?_)
    refine WL.step (v := (Value.int .i64 0)) rfl (Step.assign rfl) ?_
    refine WL.nil ?_
    refine W.ret ?_
    refine ⟨.inl rfl, (Value.tuple #[(Value.agg #[v19]), (Value.int .i64 0)]), ?_, ?_⟩
    · exact (Res.r2 (RV.cellN Try.ag47 rfl (M.blk 0 rfl) rfl) (show RV _ _ _ (.tmp 7) (Value.int .i64 0) from by exact rfl))
    rw [rput_hit hh, ← rwith_put hh]
    exact ⟨_, rfl, M.close [] rfl (by decide) ⟨M.shr' 0 rfl, trivial⟩⟩
  ·
    refine W.seq' ?_
    refine W.region rfl ?_
    refine WL.box (v := (Value.agg #[v])) (c := #[v]) M rfl rfl rfl (fun b24 w25 hb24 M => ?_)
    refine WL.box (v := (Value.agg #[(Value.int .i64 h.at_), (Value.int .i64 h.turn)])) (c := #[(Value.int .i64 h.at_), (Value.int .i64 h.turn)]) M rfl rfl rfl (fun b26 w27 hb26 M => ?_)
    refine WL.box (v := (Value.agg #[(Value.bool n.leaf), kv, dv, vv])) (c := #[(Value.bool n.leaf), kv, dv, vv]) M rfl rfl rfl (fun b28 w29 hb28 M => ?_)
    refine WL.alloc (c := #[(Value.slice none 0 0)]) M rfl Try.el47.zero rfl (fun b30 w31 hb30 M => ?_)
    refine WL.step (v := (Value.int .i64 0)) rfl (Step.assign rfl) ?_
    refine WL.nil ?_
    refine W.seq' ?_
    refine W.seq' ?_
    refine W.region rfl ?_
    refine WL.step (v := (Value.agg #[v])) rfl (Step.loadN Try.ag47 rfl (M.blk 3 rfl) (Nat.le_of_ble_eq_true rfl) rfl) ?_
    refine WL.step (v := (Value.agg #[(Value.int .i64 h.at_), (Value.int .i64 h.turn)])) rfl (Step.loadN Try.ag61 rfl (M.blk 2 rfl) (Nat.le_of_ble_eq_true rfl) rfl) ?_
    refine WL.callX rfl (ref_has v xs h (M.enterW0 ⟨(M.wideR0 2 rfl), trivial⟩)) (CallsF.func Try.en25 rfl) ?_
    rintro _ w32 ⟨rfl, m⟩
    replace M := M.leaveW0 m
    clear m
    replace M : Mem _ _ _ [blk b30 (.cells #[(Value.slice none 0 0)] 47), blk b28 (.cells #[(Value.bool n.leaf), kv, dv, vv] 58), blk b26 (.cells #[(Value.int .i64 h.at_), (Value.int .i64 h.turn)] 61), blk b24 (.cells #[v] 47)] [SlAt 6 v xs.length cs9, RepL RPlaceT cs9 xs, RepS RPlaceT v xs, SlAt 1 kv n.keys.length (n.keys.flatMap strE), SlAt 2 dv n.kids.length (n.kids.flatMap handleE), SlAt 1 vv n.vals.length (n.vals.flatMap intE)] _ := M
    rw [hh]
    refine WL.step (v := (Value.bool true)) rfl (Step.pure (by kernel_rfl)) ?_
    refine WL.nil ?_
    refine W.cond (t := true) rfl (fun _ => ?_) (fun h => by cases h)
    refine W.seq' ?_
    refine W.region rfl ?_
    refine WL.step (v := (Value.agg #[v])) rfl (Step.loadN Try.ag47 rfl (M.blk 3 rfl) (Nat.le_of_ble_eq_true rfl) rfl) ?_
    refine WL.store (v := (Value.agg #[v])) (cs := [v]) (c' := #[v]) M 0 rfl rfl Try.el47.sized rfl rfl rfl rfl (Nat.le_of_ble_eq_true rfl) (cel_cons (IsSl.cel sl5) cel_nil) rfl rfl (fun w33 M => ?_)
    refine WL.step (v := (Value.int .i64 110)) rfl (Step.assign rfl) ?_
    refine WL.nil ?_
    refine W.ret ?_
    refine ⟨.inl rfl, (Value.tuple #[(Value.agg #[v]), (Value.int .i64 110)]), ?_, ?_⟩
    · exact (Res.r2 (RV.cellN Try.ag47 rfl (M.blk 0 rfl) rfl) (show RV _ _ _ (.tmp 7) (Value.int .i64 110) from by exact rfl))
    rw [rput_miss hh]
    exact ⟨_, rfl, M.close [] rfl (by decide) ⟨M.shr' 2 rfl, trivial⟩⟩

theorem ref_used {G : Nat → Prop} {w : World} (v : Value) (xs : List RPlace) (hA : SmallA xs) (M : Mem G (fun _ => False) w [] [RepS RPlaceT v xs] w) : Rets Try.prog 38 #[(Value.agg #[v])] w fun r w' => ∃ (v' : Value), r = v' ∧ Mem G (fun _ => False) w [own 61 2 v' ((rused xs).length) ((rused xs).flatMap handleE)] [] w' := by
  refine Rets.enter 30 _ Try.func38 rfl Try.ntmps38 Try.results38 (by simp) ?_
  have hle1 := RepS.le' (M.rep 0 rfl)
  have sl2 : IsSl v := RepS.isSl (Mem.rep M 0 rfl)
  have hA1 := hA.1
  obtain ⟨cs3, M⟩ := M.openS 0 rfl
  refine W.seq' ?_
  refine W.region rfl ?_
  refine WL.box (v := (Value.agg #[v])) (c := #[v]) M rfl rfl rfl (fun b4 w5 hb4 M => ?_)
  refine WL.step (v := (Value.slice none 0 0)) rfl (Step.assign rfl) ?_
  refine WL.nil ?_
  refine W.seq' ?_
  refine W.region rfl ?_
  refine WL.step (v := (Value.slice none 0 0)) rfl (Step.assign rfl) ?_
  refine WL.nil ?_
  refine W.seq' ?_
  refine W.seq' ?_
  refine W.region rfl ?_
  refine WL.step (v := (Value.int .i64 0)) rfl (Step.assign rfl) ?_
  refine WL.nil ?_
  refine W.block ?_
  replace M := M.ownNil 61 2
  replace M := M.rechunk 0 (c' := own 61 2 (Value.slice none 0 0) (usedTo xs 0).length ((usedTo xs 0).flatMap handleE)) rfl rfl
  replace M : Mem _ _ _ [own 61 2 (Value.slice none 0 0) ((usedTo xs 0).length) ((usedTo xs 0).flatMap handleE), blk b4 (.cells #[v] 47)] [SlAt 6 v xs.length cs3, RepL RPlaceT cs3 xs, RepS RPlaceT v xs] _ := M
  refine W.loop (fun kk ρ w' => ∃ (i_ : Nat) (acc : Value), ((i_ ≤ xs.length) ∧ kk = xs.length - i_) ∧ ρ.has [(1, (Value.pointer (some ⟨b4, 0, none⟩))), (2, (Value.slice none 0 0)), (3, acc), (4, (Value.int .i64 ↑i_))] ∧ Mem G (fun _ => False) w [own 61 2 acc ((usedTo xs i_).length) ((usedTo xs i_).flatMap handleE), blk b4 (.cells #[v] 47)] [SlAt 6 v xs.length cs3, RepL RPlaceT cs3 xs, RepS RPlaceT v xs]  w') _ ⟨0, _, ⟨(Nat.zero_le _), rfl⟩, ⟨rfl, rfl, rfl, rfl, trivial⟩, M⟩ ?_
  rintro _ ρ7 w6 ⟨i_, acc, ⟨hi8, rfl⟩, hρ, M⟩
  obtain ⟨ρ7, rfl⟩ := hρ.know
  clear hρ
  have sl9 : IsSl acc := SlAt.isSl (own_slAt (M.chunk 0 rfl).inv)
  have hul := usedTo_len (l := xs) (i := i_)
  refine W.seq' ?_
  refine W.seq' ?_
  refine W.region rfl ?_
  refine WL.step (v := (Value.int .i64 ↑i_)) rfl (Step.move rfl) ?_
  refine WL.step (v := (Value.pointer (some ⟨b4, 0, none⟩))) rfl (Step.pure (by kernel_rfl)) ?_
  refine WL.step (v := v) rfl (Step.load1 Try.sc45 rfl ((M.cell 1 rfl 0).trans rfl)) ?_
  refine WL.step (v := (Value.int .i64 ↑xs.length)) rfl (Step.lenSl Try.un45 rfl (M.rep 0 rfl)) ?_
  refine WL.step (v := (Value.bool (decide ((↑i_ : Int) < (↑xs.length : Int))))) rfl (Step.pure (by kernel_rfl)) ?_
  refine WL.nil ?_
  refine W.cond (t := decide ((↑i_ : Int) < (↑xs.length : Int))) rfl (fun h10 => ?_) (fun h10 => ?_)
  ·
    have h10p := of_decide_eq_true h10
    refine W.skip ?_
    refine W.seq' ?_
    refine W.block ?_
    refine W.seq' ?_
    refine W.region rfl ?_
    refine WL.step (v := (Value.pointer (some ⟨b4, 0, none⟩))) rfl (Step.pure (by kernel_rfl)) ?_
    refine WL.step (v := v) rfl (Step.load1 Try.sc45 rfl ((M.cell 1 rfl 0).trans rfl)) ?_
    refine WL.step (v := (Value.int .i64 ↑i_)) rfl (Step.move rfl) ?_
    obtain ⟨cap12, hb11⟩ := SlAt.base (M.rep 0 rfl) (by omega)
    obtain ⟨p13, hp13⟩ := elem_of_lt (xs := xs) (i := i_) (by omega)
    obtain ⟨kv14, dv15, vv16, M⟩ := rplace_open M 0 1 rfl rfl rfl hp13
    have sl17 : IsSl kv14 := SlAt.isSl (Mem.rep M 1 rfl)
    have sl18 : IsSl dv15 := SlAt.isSl (Mem.rep M 2 rfl)
    have sl19 : IsSl vv16 := SlAt.isSl (Mem.rep M 3 rfl)
    refine WL.step (v := (Value.pointer (some ⟨(sBlk v), sOff v + i_ * 6, none⟩))) rfl (Step.indexAddr (i := i_) (Try.un45).run Try.el93.sized rfl rfl (by omega) hb11 (by omega)) ?_
    refine WL.step (v := (Value.pointer (some ⟨(sBlk v), sOff v + i_ * 6, none⟩))) rfl (Step.pure (by kernel_rfl)) ?_
    refine WL.step (v := (Value.bool p13.used)) rfl (Step.loadE (k := 0) Try.sc4 (M.rep 0 rfl : EC _ _ _ _ _) (by decide) rfl rfl) ?_
    refine WL.nil ?_
    refine W.cond (t := p13.used) rfl (fun h20 => ?_) (fun h20 => ?_)
    ·
      refine W.region rfl ?_
      refine WL.step (v := acc) rfl (Step.move rfl) ?_
      refine WL.step (v := (Value.int .i64 ↑i_)) rfl (Step.move rfl) ?_
      refine WL.step (v := (Value.pointer (some ⟨b4, 0, none⟩))) rfl (Step.pure (by kernel_rfl)) ?_
      refine WL.step (v := v) rfl (Step.load1 Try.sc45 rfl ((M.cell 1 rfl 0).trans rfl)) ?_
      refine WL.step (v := (Value.int .i64 ↑i_)) rfl (Step.move rfl) ?_
      refine WL.step (v := (Value.pointer (some ⟨(sBlk v), sOff v + i_ * 6, none⟩))) rfl (Step.indexAddr (i := i_) (Try.un45).run Try.el93.sized rfl rfl (by omega) hb11 (by omega)) ?_
      refine WL.step (v := (Value.pointer (some ⟨(sBlk v), sOff v + i_ * 6 + 1, none⟩))) rfl (Step.pure (by kernel_rfl)) ?_
      refine WL.step (v := (Value.int .i64 p13.turn)) rfl (Step.loadE (k := 1) Try.sc3 (M.rep 0 rfl : EC _ _ _ _ _) (by decide) rfl rfl) ?_
      refine WL.step (v := (Value.agg #[(Value.int .i64 ↑i_), (Value.int .i64 p13.turn)])) rfl (Step.pure (by kernel_rfl)) ?_
      refine WL.new (obj := .cells #[(Value.int .i64 ↑i_), (Value.int .i64 p13.turn)] 61) (fun b => .slice (some ⟨b, 0, none⟩) 1 1) M rfl (fun w => Step.make (by kernel_rfl)) (fun b21 w22 hb21 M => ?_)
      refine WL.does rfl (M.appendF (usedTo xs i_) ([(⟨↑i_, p13.turn⟩ : Handle)] : List Handle) (sv := (Value.slice (some ⟨b21, 0, none⟩) 1 1)) 1 Try.un56 Try.el61 rfl (by decide) rfl rfl rfl (SlAt.of_blk (M.blk 0 rfl) rfl (by decide)) handleE_cel (by have := hul; simp only [maxLen, List.length_nil, List.length_cons, List.length_append]; omega) (by have := hul; (try simp only [List.length_nil, List.length_cons, List.length_append]); omega)) ?_
      rintro v23 w24 M
      replace M : Mem _ _ _ [blk b21 (.cells #[(Value.int .i64 ↑i_), (Value.int .i64 p13.turn)] 61), own 61 2 v23 (((usedTo xs i_) ++ ([(⟨↑i_, p13.turn⟩ : Handle)] : List Handle)).length) (((usedTo xs i_) ++ ([(⟨↑i_, p13.turn⟩ : Handle)] : List Handle)).flatMap handleE), blk b4 (.cells #[v] 47)] [EC v 6 i_ [(Value.bool p13.used), (Value.int .i64 p13.turn), (Value.bool p13.node.leaf), kv14, dv15, vv16], SlAt 1 kv14 p13.node.keys.length (p13.node.keys.flatMap strE), SlAt 2 dv15 p13.node.kids.length (p13.node.kids.flatMap handleE), SlAt 1 vv16 p13.node.vals.length (p13.node.vals.flatMap intE), SlAt 6 v xs.length cs3, RepL RPlaceT cs3 xs, RepS RPlaceT v xs] _ := M
      have sl25 : IsSl v23 := SlAt.isSl (own_slAt (M.chunk 1 rfl).inv)
      refine WL.step (v := v23) rfl (Step.assign rfl) ?_
      refine WL.nil ?_
      refine W.region rfl ?_
      refine WL.step (v := (Value.int .i64 ↑i_)) rfl (Step.move rfl) ?_
      refine WL.step (v := (Value.int .i64 (↑i_ + 1))) rfl (Step.add rfl rfl (wrap_i64 (by omega))) ?_
      refine WL.step (v := (Value.int .i64 (↑i_ + 1))) rfl (Step.assign rfl) ?_
      refine WL.nil ?_
      replace M := M.rechunk 1 (c' := own 61 2 v23 ((usedTo xs (i_ + 1)).length) ((usedTo xs (i_ + 1)).flatMap handleE)) rfl (by rw [usedTo_succ, used1_yes hp13 h20])
      replace M : Mem _ _ _ [blk b21 (.cells #[(Value.int .i64 ↑i_), (Value.int .i64 p13.turn)] 61), own 61 2 v23 ((usedTo xs (i_ + 1)).length) ((usedTo xs (i_ + 1)).flatMap handleE), blk b4 (.cells #[v] 47)] [EC v 6 i_ [(Value.bool p13.used), (Value.int .i64 p13.turn), (Value.bool p13.node.leaf), kv14, dv15, vv16], SlAt 1 kv14 p13.node.keys.length (p13.node.keys.flatMap strE), SlAt 2 dv15 p13.node.kids.length (p13.node.kids.flatMap handleE), SlAt 1 vv16 p13.node.vals.length (p13.node.vals.flatMap intE), SlAt 6 v xs.length cs3, RepL RPlaceT cs3 xs, RepS RPlaceT v xs] _ := M
      replace M := M.sel (L' := [own 61 2 v23 ((usedTo xs (i_ + 1)).length) ((usedTo xs (i_ + 1)).flatMap handleE), blk b4 (.cells #[v] 47)]) [1, 2] rfl (by decide)
      replace M := M.sub (List.Sublist.refl _) (R' := [SlAt 6 v xs.length cs3, RepL RPlaceT cs3 xs, RepS RPlaceT v xs]) (fun r h => (List.mem_cons_of_mem _ (List.mem_cons_of_mem _ (List.mem_cons_of_mem _ (List.mem_cons_of_mem _ h)))))
      exact ⟨_, (by omega), i_ + 1, v23, ⟨(by omega), rfl⟩, ⟨rfl, rfl, rfl, rfl, trivial⟩, M⟩
    ·
      refine W.skip ?_
      refine W.region rfl ?_
      refine WL.step (v := (Value.int .i64 ↑i_)) rfl (Step.move rfl) ?_
      refine WL.step (v := (Value.int .i64 (↑i_ + 1))) rfl (Step.add rfl rfl (wrap_i64 (by omega))) ?_
      refine WL.step (v := (Value.int .i64 (↑i_ + 1))) rfl (Step.assign rfl) ?_
      refine WL.nil ?_
      replace M := M.rechunk 0 (c' := own 61 2 acc ((usedTo xs (i_ + 1)).length) ((usedTo xs (i_ + 1)).flatMap handleE)) rfl (by rw [usedTo_succ, used1_no hp13 h20, List.append_nil])
      replace M : Mem _ _ _ [own 61 2 acc ((usedTo xs (i_ + 1)).length) ((usedTo xs (i_ + 1)).flatMap handleE), blk b4 (.cells #[v] 47)] [EC v 6 i_ [(Value.bool p13.used), (Value.int .i64 p13.turn), (Value.bool p13.node.leaf), kv14, dv15, vv16], SlAt 1 kv14 p13.node.keys.length (p13.node.keys.flatMap strE), SlAt 2 dv15 p13.node.kids.length (p13.node.kids.flatMap handleE), SlAt 1 vv16 p13.node.vals.length (p13.node.vals.flatMap intE), SlAt 6 v xs.length cs3, RepL RPlaceT cs3 xs, RepS RPlaceT v xs] _ := M
      replace M := M.sub (List.Sublist.refl _) (R' := [SlAt 6 v xs.length cs3, RepL RPlaceT cs3 xs, RepS RPlaceT v xs]) (fun r h => (List.mem_cons_of_mem _ (List.mem_cons_of_mem _ (List.mem_cons_of_mem _ (List.mem_cons_of_mem _ h)))))
      exact ⟨_, (by omega), i_ + 1, acc, ⟨(by omega), rfl⟩, ⟨rfl, rfl, rfl, rfl, trivial⟩, M⟩
  ·
    have h10p := of_decide_eq_false h10
    refine W.exit ?_
    refine thn_exit ?_
    refine thn_exit ?_
    refine inBlk_hit ?_
    refine W.seq' ?_
    refine W.region rfl ?_
    refine WL.step (v := acc) rfl (Step.move rfl) ?_
    refine WL.step (v := acc) rfl (Step.assign rfl) ?_
    refine WL.nil ?_
    refine W.ret ?_
    refine ⟨.inl rfl, acc, ?_, ?_⟩
    · exact (Res.r1 (show RV _ _ _ (.tmp 2) acc from by exact rfl))
    have e26 : rused xs = usedTo xs i_ := by
      unfold rused; rw [show i_ = xs.length by omega]
    replace M := M.rechunk 0 (c' := own 61 2 acc ((rused xs).length) ((rused xs).flatMap handleE)) rfl (congrArg (fun z => own 61 2 acc z.length (z.flatMap handleE)) e26.symm)
    replace M : Mem _ _ _ [own 61 2 acc ((rused xs).length) ((rused xs).flatMap handleE), blk b4 (.cells #[v] 47)] [SlAt 6 v xs.length cs3, RepL RPlaceT cs3 xs, RepS RPlaceT v xs] _ := M
    refine ⟨acc, ?_, M.close [0] rfl (by decide) trivial⟩
    rfl

theorem ref_free {G : Nat → Prop} {w : World} (v : Value) (xs : List RPlace) (lv : Value) (hs : List Handle) (hA : SmallA xs) (M : Mem G (fun _ => False) w [] [RepS RPlaceT v xs, SlAt 2 lv hs.length (hs.flatMap handleE)] w) : Rets Try.prog 35 #[(Value.agg #[v]), lv] w fun r w' => ∃ (v' : Value), r = (Value.tuple #[(Value.agg #[v']), (Value.int .i64 ((rfree xs hs).2))]) ∧ Mem G (fun _ => False) w [] [RepS RPlaceT v' ((rfree xs hs).1)] w' := by
  refine Rets.enter 37 _ Try.func35 rfl Try.ntmps35 Try.results35 (by simp) ?_
  have hle1 := RepS.le' (M.rep 0 rfl)
  have hle2 := SlAt.le' (M.rep 1 rfl)
  have sl3 : IsSl v := RepS.isSl (Mem.rep M 0 rfl)
  have sl4 : IsSl lv := SlAt.isSl (Mem.rep M 1 rfl)
  have hA1 := hA.1
  obtain ⟨cs5, M⟩ := M.openS 0 rfl
  refine W.seq' ?_
  refine W.region rfl ?_
  refine WL.box (v := (Value.agg #[v])) (c := #[v]) M rfl rfl rfl (fun b6 w7 hb6 M => ?_)
  refine WL.alloc (c := #[(Value.slice none 0 0)]) M rfl Try.el47.zero rfl (fun b8 w9 hb8 M => ?_)
  refine WL.step (v := (Value.int .i64 0)) rfl (Step.assign rfl) ?_
  refine WL.nil ?_
  refine W.seq' ?_
  refine W.region rfl ?_
  refine WL.step (v := (Value.agg #[v])) rfl (Step.loadN Try.ag47 rfl (M.blk 1 rfl) (Nat.le_of_ble_eq_true rfl) rfl) ?_
  refine WL.alloc (c := #[(Value.slice none 0 0)]) M rfl Try.el47.zero rfl (fun b10 w11 hb10 M => ?_)
  refine WL.store (v := (Value.agg #[v])) (cs := [v]) (c' := #[v]) M 0 rfl rfl Try.el47.sized rfl rfl rfl rfl (Nat.le_of_ble_eq_true rfl) (cel_cons (IsSl.cel sl3) cel_nil) rfl rfl (fun w12 M => ?_)
  refine WL.nil ?_
  refine W.seq' ?_
  refine W.seq' ?_
  refine W.region rfl ?_
  refine WL.step (v := (Value.int .i64 0)) rfl (Step.assign rfl) ?_
  refine WL.nil ?_
  refine W.block ?_
  replace M := M.add (r := RepS RPlaceT v (freeAll xs (hs.take 0))) (M.shr 2 rfl)
  refine W.loop (fun kk ρ w' => ∃ (i_ : Nat) (out_ : Value), ((i_ ≤ hs.length) ∧ (freeOkTo xs hs i_) ∧ kk = hs.length - i_) ∧ ρ.has [(1, lv), (2, (Value.pointer (some ⟨b6, 0, none⟩))), (4, (Value.pointer (some ⟨b8, 0, none⟩))), (6, (Value.pointer (some ⟨b10, 0, none⟩))), (7, (Value.int .i64 ↑i_))] ∧ Mem G (fun _ => False) w [blk b10 (.cells #[out_] 47), blk b8 (.cells #[(Value.slice none 0 0)] 47), blk b6 (.cells #[v] 47)] [RepS RPlaceT out_ (freeAll xs (hs.take i_)), SlAt 6 v xs.length cs5, RepL RPlaceT cs5 xs, RepS RPlaceT v xs, SlAt 2 lv hs.length (hs.flatMap handleE)]  w') _ ⟨0, _, ⟨(Nat.zero_le _), (fun _ _ h => absurd h (Nat.not_lt_zero _)), rfl⟩, ⟨rfl, rfl, rfl, rfl, rfl, trivial⟩, M⟩ ?_
  rintro _ ρ14 w13 ⟨i_, out_, ⟨hi15, hi16, rfl⟩, hρ, M⟩
  obtain ⟨ρ14, rfl⟩ := hρ.know
  clear hρ
  have sl17 : IsSl out_ := RepS.isSl (M.rep 0 rfl)
  have hfl := freeAll_len (l := xs) (hs := hs.take i_)
  refine W.seq' ?_
  refine W.seq' ?_
  refine W.region rfl ?_
  refine WL.step (v := (Value.int .i64 ↑i_)) rfl (Step.move rfl) ?_
  refine WL.step (v := lv) rfl (Step.move rfl) ?_
  refine WL.step (v := (Value.int .i64 ↑hs.length)) rfl (Step.lenSl Try.un56 rfl (M.rep 4 rfl)) ?_
  refine WL.step (v := (Value.bool (decide ((↑i_ : Int) < (↑hs.length : Int))))) rfl (Step.pure (by kernel_rfl)) ?_
  refine WL.nil ?_
  refine W.cond (t := decide ((↑i_ : Int) < (↑hs.length : Int))) rfl (fun h18 => ?_) (fun h18 => ?_)
  ·
    have h18p := of_decide_eq_true h18
    refine W.skip ?_
    refine W.seq' ?_
    refine W.block ?_
    refine W.seq' ?_
    refine W.seq' ?_
    obtain ⟨cap20, hb19⟩ := SlAt.base (M.rep 4 rfl) (by omega)
    obtain ⟨x21, hx21⟩ := elem_of_lt (xs := hs) (i := i_) (by omega)
    refine W.drawn M [0, 1, 2, 3, 4, 5, 6] [5] [] [blk b10 (.cells #[out_] 47), blk b8 (.cells #[(Value.slice none 0 0)] 47), blk b6 (.cells #[v] 47)] [RepS RPlaceT out_ (freeAll xs (hs.take i_)), SlAt 6 v xs.length cs5, RepL RPlaceT cs5 xs, RepS RPlaceT v xs, SlAt 2 lv hs.length (hs.flatMap handleE)] (List.Sublist.cons_cons _ (List.Sublist.cons_cons _ (List.Sublist.cons_cons _ List.Sublist.slnil))) (fun _ h => h) Try.mixed (by kernel_rfl) ?_
    refine TW.read (v := (Value.agg #[out_])) rfl (by decide) (by decide) rfl (fun A w M => (Step.loadN Try.ag47 rfl (M.blk 1 rfl) (Nat.le_of_ble_eq_true rfl) rfl)) ?_
    refine TW.pure (v := lv) rfl (by decide) (by decide) rfl (fun w => (Step.move rfl)) ?_
    refine TW.pure (v := (Value.int .i64 ↑i_)) rfl (by decide) (by decide) rfl (fun w => (Step.move rfl)) ?_
    refine TW.pure (v := (Value.pointer (some ⟨(sBlk lv), sOff lv + i_ * 2, none⟩))) rfl (by decide) (by decide) rfl (fun w => (Step.indexAddr (i := i_) (Try.un56).run Try.el61.sized rfl rfl (by omega) hb19 (by omega))) ?_
    refine TW.read (v := (Value.agg #[(Value.int .i64 x21.at_), (Value.int .i64 x21.turn)])) rfl (by decide) (by decide) rfl (fun A w M => (Step.loadEN (k := 0) (cs' := [(Value.int .i64 x21.at_), (Value.int .i64 x21.turn)]) Try.ag61 (flat_ec (M.rep 4 rfl) hx21 handleE_len) (by decide) rfl rfl rfl)) ?_
    refine TW.callX (ι := Unit) (fun jx v_ => v_ = (Value.bool (rhas (freeAll xs (hs.take i_)) x21))) (fun jx => [blk b10 (.cells #[out_] 47), blk b8 (.cells #[(Value.slice none 0 0)] 47), blk b6 (.cells #[v] 47)]) (fun jx => [RepS RPlaceT out_ (freeAll xs (hs.take i_)), SlAt 6 v xs.length cs5, RepL RPlaceT cs5 xs, RepS RPlaceT v xs, SlAt 2 lv hs.length (hs.flatMap handleE)]) rfl (by decide) rfl (fun jx => (List.Sublist.cons_cons _ (List.Sublist.cons_cons _ (List.Sublist.cons_cons _ List.Sublist.slnil)))) (fun jx r h => h) (fun A w M => Rets.mono (ref_has out_ (freeAll xs (hs.take i_)) x21 (M.enterW0 ⟨(M.wideR0 0 rfl), trivial⟩)) (fun v_ w_ ⟨e_, m⟩ => ⟨(), e_, (M.leaveW0 m).sel (L' := [fl A, blk b10 (.cells #[out_] 47), blk b8 (.cells #[(Value.slice none 0 0)] 47), blk b6 (.cells #[v] 47)]) [0, 1, 2, 3] rfl (by decide), fun b hb => M.keptW0 m (fl A) (List.mem_cons_self ..) b hb⟩)) (fun w => CallsF.func Try.en25 rfl) (fun jx v hp hin => ?_)
    replace hp := hp.symm; subst hp
    clear hin
    change TW _ _ _ _ _ _ _ _ (MemA _ _ _ [blk b10 (.cells #[out_] 47), blk b8 (.cells #[(Value.slice none 0 0)] 47), blk b6 (.cells #[v] 47)] [RepS RPlaceT out_ (freeAll xs (hs.take i_)), SlAt 6 v xs.length cs5, RepL RPlaceT cs5 xs, RepS RPlaceT v xs, SlAt 2 lv hs.length (hs.flatMap handleE)])
    refine TW.pure (v := (Value.bool (!(rhas (freeAll xs (hs.take i_)) x21)))) rfl (by decide) (by decide) rfl (fun w => (Step.pure (by kernel_rfl))) ?_
    refine TW.done (fun w22 M => ?_)
    refine W.cond (t := !(rhas (freeAll xs (hs.take i_)) x21)) rfl (fun h23 => ?_) (fun h23 => ?_)
    ·
      refine W.seq' ?_
      refine W.region rfl ?_
      refine WL.step (v := (Value.agg #[v])) rfl (Step.loadN Try.ag47 rfl (M.blk 2 rfl) (Nat.le_of_ble_eq_true rfl) rfl) ?_
      refine WL.store (v := (Value.agg #[v])) (cs := [v]) (c' := #[v]) M 1 rfl rfl Try.el47.sized rfl rfl rfl rfl (Nat.le_of_ble_eq_true rfl) (cel_cons (IsSl.cel sl3) cel_nil) rfl rfl (fun w24 M => ?_)
      refine WL.step (v := (Value.int .i64 110)) rfl (Step.assign rfl) ?_
      refine WL.nil ?_
      refine W.ret ?_
      refine ⟨.inl rfl, (Value.tuple #[(Value.agg #[v]), (Value.int .i64 110)]), ?_, ?_⟩
      · exact (Res.r2 (RV.cellN Try.ag47 rfl (M.blk 1 rfl) rfl) (show RV _ _ _ (.tmp 5) (Value.int .i64 110) from by exact rfl))
      have hh2 := rhas_freeAll hi16 (h := x21)
      have hh3 : rhas (freeAll xs (hs.take i_)) x21 = false := by simpa using h23
      rw [hh3] at hh2
      have hnf : freeable xs hs = false := freeable_not hx21 (by have hh4 := hh2.symm; simp only [Bool.and_eq_false_iff, Bool.not_eq_false'] at hh4; exact hh4)
      rw [rfree_miss hnf]
      exact ⟨_, rfl, M.close [] rfl (by decide) ⟨M.shr' 3 rfl, trivial⟩⟩
    ·
      obtain ⟨_, _, _, _, h0p, hltp⟩ := rhas_place (h := x21) (by simpa using h23)
      refine W.skip ?_
      refine W.drawn M [0, 1, 2, 3, 4, 5, 6, 7, 8, 9, 10, 11, 12, 13] [0, 12, 13] [] [blk b8 (.cells #[(Value.slice none 0 0)] 47), blk b6 (.cells #[v] 47)] [RepS RPlaceT out_ (freeAll xs (hs.take i_)), SlAt 6 v xs.length cs5, RepL RPlaceT cs5 xs, RepS RPlaceT v xs, SlAt 2 lv hs.length (hs.flatMap handleE)] (List.Sublist.cons _ (List.Sublist.cons_cons _ (List.Sublist.cons_cons _ List.Sublist.slnil))) (fun _ h => h) Try.mixed (by kernel_rfl) ?_
      refine TW.readL (v := (Value.agg #[out_])) rfl (by decide) rfl (List.Sublist.cons _ (List.Sublist.cons_cons _ (List.Sublist.cons_cons _ List.Sublist.slnil))) (fun r h => h) (fun A w M => (Step.loadN Try.ag47 rfl (M.blk 1 rfl) (Nat.le_of_ble_eq_true rfl) rfl)) ?_
      refine TW.pure (v := lv) rfl (by decide) (by decide) rfl (fun w => (Step.move rfl)) ?_
      refine TW.pure (v := (Value.int .i64 ↑i_)) rfl (by decide) (by decide) rfl (fun w => (Step.move rfl)) ?_
      refine TW.pure (v := (Value.pointer (some ⟨(sBlk lv), sOff lv + i_ * 2, none⟩))) rfl (by decide) (by decide) rfl (fun w => (Step.indexAddr (i := i_) (Try.un56).run Try.el61.sized rfl rfl (by omega) hb19 (by omega))) ?_
      refine TW.pure (v := (Value.pointer (some ⟨(sBlk lv), sOff lv + i_ * 2, none⟩))) rfl (by decide) (by decide) rfl (fun w => (Step.pure (by kernel_rfl))) ?_
      refine TW.read (v := (Value.int .i64 x21.at_)) rfl (by decide) (by decide) rfl (fun A w M => (Step.loadE (k := 0) Try.sc3 (flat_ec (M.rep 4 rfl) hx21 handleE_len) (by decide) rfl rfl)) ?_
      refine TW.pure (v := lv) rfl (by decide) (by decide) rfl (fun w => (Step.move rfl)) ?_
      refine TW.pure (v := (Value.int .i64 ↑i_)) rfl (by decide) (by decide) rfl (fun w => (Step.move rfl)) ?_
      refine TW.pure (v := (Value.pointer (some ⟨(sBlk lv), sOff lv + i_ * 2, none⟩))) rfl (by decide) (by decide) rfl (fun w => (Step.indexAddr (i := i_) (Try.un56).run Try.el61.sized rfl rfl (by omega) hb19 (by omega))) ?_
      refine TW.pure (v := (Value.pointer (some ⟨(sBlk lv), sOff lv + i_ * 2 + 1, none⟩))) rfl (by decide) (by decide) rfl (fun w => (Step.pure (by kernel_rfl))) ?_
      refine TW.read (v := (Value.int .i64 x21.turn)) rfl (by decide) (by decide) rfl (fun A w M => (Step.loadE (k := 1) Try.sc3 (flat_ec (M.rep 4 rfl) hx21 handleE_len) (by decide) rfl rfl)) ?_
      refine TW.pure (v := (Value.agg #[(Value.bool false), (Value.int .i64 x21.turn), (Value.bool false), (Value.slice none 0 0), (Value.slice none 0 0), (Value.slice none 0 0)])) rfl (by decide) (by decide) rfl (fun w => (Step.pure (by kernel_rfl))) ?_
      refine TW.callX (ι := Value) (fun jx v_ => v_ = (Value.agg #[jx])) (fun jx => [blk b10 (.cells #[out_] 47), blk b8 (.cells #[(Value.slice none 0 0)] 47), blk b6 (.cells #[v] 47)]) (fun jx => [RepS RPlaceT jx (rwith (freeAll xs (hs.take i_)) x21.at_ ⟨false, x21.turn, (⟨false, ([] : List ByteArray), ([] : List Handle), ([] : List Int)⟩ : Nd)⟩), RepS RPlaceT out_ (freeAll xs (hs.take i_)), SlAt 6 v xs.length cs5, RepL RPlaceT cs5 xs, RepS RPlaceT v xs, SlAt 2 lv hs.length (hs.flatMap handleE)]) rfl (by decide) rfl (fun jx => (List.Sublist.cons _ (List.Sublist.cons_cons _ (List.Sublist.cons_cons _ List.Sublist.slnil)))) (fun jx r h => (List.mem_cons_of_mem _ h)) (fun A w M => Rets.mono (ref_with out_ (freeAll xs (hs.take i_)) x21.at_ false x21.turn (Value.slice none 0 0) (Value.slice none 0 0) (Value.slice none 0 0) (⟨false, ([] : List ByteArray), ([] : List Handle), ([] : List Int)⟩ : Nd) (by omega) (by omega) (M.enter0 ⟨(M.shr' 0 rfl), (Sh.pure fun w => SlAt.nil 1 w), (Sh.pure fun w => SlAt.nil 2 w), (Sh.pure fun w => SlAt.nil 1 w), trivial⟩)) (fun v_ w_ ⟨v29, e_, m⟩ => ⟨v29, e_, (M.leave0 m).sel (L' := [fl A, blk b10 (.cells #[out_] 47), blk b8 (.cells #[(Value.slice none 0 0)] 47), blk b6 (.cells #[v] 47)]) [0, 1, 2, 3] rfl (by decide), fun b hb => M.kept0 m (fl A) (List.mem_cons_self ..) b hb⟩)) (fun w => CallsF.func Try.en46 rfl) (fun v29 v hp hin => ?_)
      replace hp := hp.symm; subst hp
      obtain ⟨_, _, hin⟩ := hin
      have sl30 : IsSl v29 := RepS.isSl (Mem.rep hin 0 rfl)
      clear hin
      change TW _ _ _ _ _ _ _ _ (MemA _ _ _ [blk b10 (.cells #[out_] 47), blk b8 (.cells #[(Value.slice none 0 0)] 47), blk b6 (.cells #[v] 47)] [RepS RPlaceT v29 (rwith (freeAll xs (hs.take i_)) x21.at_ ⟨false, x21.turn, (⟨false, ([] : List ByteArray), ([] : List Handle), ([] : List Int)⟩ : Nd)⟩), RepS RPlaceT out_ (freeAll xs (hs.take i_)), SlAt 6 v xs.length cs5, RepL RPlaceT cs5 xs, RepS RPlaceT v xs, SlAt 2 lv hs.length (hs.flatMap handleE)])
      refine TW.store (v := (Value.agg #[v29])) (cs := [v29]) (c' := #[v29]) 0 rfl rfl (by decide) rfl Try.el47.sized rfl rfl rfl rfl (Nat.le_of_ble_eq_true rfl) (cel_cons (IsSl.cel sl30) cel_nil) rfl rfl (List.Sublist.cons _ (List.Sublist.cons_cons _ (List.Sublist.cons_cons _ List.Sublist.slnil))) (fun r h => (List.mem_cons_of_mem _ h)) ?_
      refine TW.done (fun w31 M => ?_)
      refine W.region rfl ?_
      refine WL.step (v := (Value.int .i64 ↑i_)) rfl (Step.move rfl) ?_
      refine WL.step (v := (Value.int .i64 (↑i_ + 1))) rfl (Step.add rfl rfl (wrap_i64 (by omega))) ?_
      refine WL.step (v := (Value.int .i64 (↑i_ + 1))) rfl (Step.assign rfl) ?_
      refine WL.nil ?_
      have hh2 := rhas_freeAll hi16 (h := x21)
      have hh3 : rhas (freeAll xs (hs.take i_)) x21 = true := by simpa using h23
      rw [hh3] at hh2
      have hh4 := hh2.symm; simp only [Bool.and_eq_true, Bool.not_eq_true'] at hh4
      have hstep := freeOkTo_step hi16 hx21 hh4.1 hh4.2
      have hf := M.shr' 0 rfl
      have hfe := freeAll_snoc (l := xs) hx21
      rw [rwith_free hh3, ← hfe] at hf
      replace M := M.add hf
      replace M := M.facts (R' := [RepS RPlaceT v29 (freeAll xs (hs.take (i_ + 1))), SlAt 6 v xs.length cs5, RepL RPlaceT cs5 xs, RepS RPlaceT v xs, SlAt 2 lv hs.length (hs.flatMap handleE)]) (Facts.all ⟨M.shr' 0 rfl, M.shr' 3 rfl, M.shr' 4 rfl, M.shr' 5 rfl, M.shr' 6 rfl, trivial⟩)
      exact ⟨_, (by omega), i_ + 1, v29, ⟨(by omega), hstep, rfl⟩, ⟨rfl, rfl, rfl, rfl, rfl, trivial⟩, M⟩
  ·
    have h18p := of_decide_eq_false h18
    refine W.exit ?_
    refine thn_exit ?_
    refine thn_exit ?_
    refine inBlk_hit ?_
    refine W.seq' ?_
    refine W.region rfl ?_
    refine WL.step (v := (Value.agg #[out_])) rfl (Step.loadN Try.ag47 rfl (M.blk 0 rfl) (Nat.le_of_ble_eq_true rfl) rfl) ?_
    refine WL.store (v := (Value.agg #[out_])) (cs := [out_]) (c' := #[out_]) M 1 rfl rfl Try.el47.sized rfl rfl rfl rfl (Nat.le_of_ble_eq_true rfl) (cel_cons (IsSl.cel sl17) cel_nil) rfl rfl (fun w32 M => ?_)
    refine WL.step (v := (Value.int .i64 0)) rfl (Step.assign rfl) ?_
    refine WL.nil ?_
    refine W.ret ?_
    refine ⟨.inl rfl, (Value.tuple #[(Value.agg #[out_]), (Value.int .i64 0)]), ?_, ?_⟩
    · exact (Res.r2 (RV.cellN Try.ag47 rfl (M.blk 1 rfl) rfl) (show RV _ _ _ (.tmp 5) (Value.int .i64 0) from by exact rfl))
    rw [rfree_hit (freeable_of hi16 (by omega))]
    have htk : hs.take i_ = hs := List.take_of_length_le (by omega)
    rw [htk] at M
    exact ⟨_, rfl, M.close [] rfl (by decide) ⟨M.shr' 0 rfl, trivial⟩⟩
end Go.Proofs
