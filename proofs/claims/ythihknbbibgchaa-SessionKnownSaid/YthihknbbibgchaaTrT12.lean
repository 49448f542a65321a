/- Walks. -/
import Derived.Test.YthihknbbibgchaaTrT11
import Derived.Test.YthihknbbibgchaaTrSesK
set_option maxRecDepth 100000
set_option linter.all false
namespace Go.Proofs
open Go Tp


theorem law17_brought {G : Nat → Prop} {w : World} (v : Value) (l : List Int)  (hb : l.length ≤ 1000000) (M : Mem G (fun _ => False) w [] [SlAt 1 v l.length (l.flatMap intE)] w) : Rets Try.prog 70 #[v] w fun r w' => ∃ (v' : Value), r = v' ∧ Mem G (fun _ => False) w [own 2 1 v' ((l.map timT).length) ((l.map timT).flatMap intE)] [] w' := by
  refine Rets.enter 20 _ Try.func70 rfl Try.ntmps70 Try.results70 (by simp) ?_
  have hle1 := SlAt.le' (M.rep 0 rfl)
  have sl2 : IsSl v := SlAt.isSl (Mem.rep M 0 rfl)
  refine W.seq' ?_
  refine W.region rfl ?_
  refine WL.step (v := (Value.slice none 0 0)) rfl (Step.assign rfl) ?_
  refine WL.nil ?_
  refine W.seq' ?_
  refine W.region rfl ?_
  refine WL.step (v := (Value.slice none 0 0)) rfl (Step.assign rfl) ?_
  refine WL.nil ?_
  refine W.seq' ?_
  refine W.seq' ?_
  refine W.region rfl ?_
  refine WL.step (v := (Value.int .i64 0)) rfl (Step.assign rfl) ?_
  refine WL.nil ?_
  refine W.block ?_
  replace M := M.ownNil 2 1
  replace M := M.rechunk 0 (c' := own 2 1 (Value.slice none 0 0) (((l.take 0).map timT).length) (((l.take 0).map timT).flatMap intE)) rfl rfl
  replace M : Mem _ _ _ [own 2 1 (Value.slice none 0 0) (((l.take 0).map timT).length) (((l.take 0).map timT).flatMap intE)] [SlAt 1 v l.length (l.flatMap intE)] _ := M
  refine W.loop (fun kk ρ w' => ∃ (i_ : Nat) (acci_ : Value), ((i_ ≤ l.length) ∧ kk = l.length - i_) ∧ ρ.has [(0, v), (2, (Value.slice none 0 0)), (3, acci_), (4, (Value.int .i64 ↑i_))] ∧ Mem G (fun _ => False) w [own 2 1 acci_ (((l.take i_).map timT).length) (((l.take i_).map timT).flatMap intE)] [SlAt 1 v l.length (l.flatMap intE)]  w') _ ⟨0, _, ⟨(Nat.zero_le _), rfl⟩, ⟨rfl, rfl, rfl, rfl, rfl, rfl⟩, M⟩ ?_
  rintro _ ρ4 w3 ⟨i_, acci_, ⟨hi5, rfl⟩, hρ, M⟩
  obtain ⟨ρ4, rfl⟩ := hρ.know
  clear hρ
  have sl6 : IsSl acci_ := SlAt.isSl (own_slAt (M.chunk 0 rfl).inv)
  have hacl : ((l.take i_).map timT).length ≤ 1000000 := by rw [List.length_map, List.length_take]; omega
  refine W.seq' ?_
  refine W.seq' ?_
  refine W.region rfl ?_
  refine WL.step (v := (Value.int .i64 ↑i_)) rfl (Step.move rfl) ?_
  refine WL.step (v := v) rfl (Step.move rfl) ?_
  refine WL.step (v := (Value.int .i64 ↑l.length)) rfl (Step.lenSl Try.un70 rfl (M.rep 0 rfl)) ?_
  refine WL.step (v := (Value.bool (decide ((↑i_ : Int) < (↑l.length : Int))))) rfl (Step.pure (by kernel_rfl)) ?_
  refine WL.nil ?_
  refine W.cond (t := decide ((↑i_ : Int) < (↑l.length : Int))) rfl (fun h7 => ?_) (fun h7 => ?_)
  ·
    have h7p := of_decide_eq_true h7
    refine W.skip ?_
    refine W.seq' ?_
    refine W.block ?_
    refine W.region rfl ?_
    refine WL.step (v := acci_) rfl (Step.move rfl) ?_
    refine WL.step (v := v) rfl (Step.move rfl) ?_
    refine WL.step (v := (Value.int .i64 ↑i_)) rfl (Step.move rfl) ?_
    obtain ⟨cap9, hb8⟩ := SlAt.base (M.rep 0 rfl) (by omega)
    obtain ⟨x10, hx10⟩ := elem_of_lt (xs := l) (i := i_) (by omega)
    refine WL.step (v := (Value.pointer (some ⟨(sBlk v), sOff v + i_ * 1, none⟩))) rfl (Step.indexAddr (i := i_) (Try.un70).run Try.el2.sized rfl rfl (by omega) hb8 (by omega)) ?_
    refine WL.step (v := (Value.int .i64 x10)) rfl (Step.loadE (k := 0) Try.sc2 (flat_ec (M.rep 0 rfl) hx10 intE_len) (by decide) rfl rfl) ?_
    refine WL.step (v := (Value.int .i64 (x10.tmod 1099511627776))) rfl (Step.rem rfl rfl (by omega)) ?_
    refine WL.new (obj := .cells #[(Value.int .i64 (x10.tmod 1099511627776))] 2) (fun b => .slice (some ⟨b, 0, none⟩) 1 1) M rfl (fun w => Step.make (by kernel_rfl)) (fun b11 w12 hb11 M => ?_)
    refine WL.does rfl (M.appendF ((l.take i_).map timT) ([(x10.tmod 1099511627776)] : List Int) (sv := (Value.slice (some ⟨b11, 0, none⟩) 1 1)) 1 Try.un70 Try.el2 rfl (by decide) rfl rfl rfl (SlAt.of_blk (M.blk 0 rfl) rfl (by decide)) intE_cel (by have := hacl; simp only [maxLen, List.length_nil, List.length_cons, List.length_append]; omega) (by have := hacl; (try simp only [List.length_nil, List.length_cons, List.length_append]); omega)) ?_
    rintro v13 w14 M
    replace M : Mem _ _ _ [blk b11 (.cells #[(Value.int .i64 (x10.tmod 1099511627776))] 2), own 2 1 v13 ((((l.take i_).map timT) ++ ([(x10.tmod 1099511627776)] : List Int)).length) ((((l.take i_).map timT) ++ ([(x10.tmod 1099511627776)] : List Int)).flatMap intE)] [SlAt 1 v l.length (l.flatMap intE)] _ := M
    have sl15 : IsSl v13 := SlAt.isSl (own_slAt (M.chunk 1 rfl).inv)
    refine WL.step (v := v13) rfl (Step.assign rfl) ?_
    refine WL.nil ?_
    refine W.region rfl ?_
    refine WL.step (v := (Value.int .i64 ↑i_)) rfl (Step.move rfl) ?_
    refine WL.step (v := (Value.int .i64 (↑i_ + 1))) rfl (Step.add rfl rfl (wrap_i64 (by omega))) ?_
    refine WL.step (v := (Value.int .i64 (↑i_ + 1))) rfl (Step.assign rfl) ?_
    refine WL.nil ?_
    replace M := M.rechunk 1 (c' := own 2 1 v13 (((l.take (i_ + 1)).map timT).length) (((l.take (i_ + 1)).map timT).flatMap intE)) rfl (by rw [timT_snoc hx10])
    replace M : Mem _ _ _ [blk b11 (.cells #[(Value.int .i64 (x10.tmod 1099511627776))] 2), own 2 1 v13 (((l.take (i_ + 1)).map timT).length) (((l.take (i_ + 1)).map timT).flatMap intE)] [SlAt 1 v l.length (l.flatMap intE)] _ := M
    replace M := M.sel (L' := [own 2 1 v13 (((l.take (i_ + 1)).map timT).length) (((l.take (i_ + 1)).map timT).flatMap intE)]) [1] rfl (by decide)
    exact ⟨_, (by omega), i_ + 1, v13, ⟨(by omega), rfl⟩, ⟨rfl, rfl, rfl, rfl, rfl, rfl⟩, M⟩
  ·
    have h7p := of_decide_eq_false h7
    refine W.exit ?_
    refine thn_exit ?_
    refine thn_exit ?_
    refine inBlk_hit ?_
    refine W.seq' ?_
    refine W.region rfl ?_
    refine WL.step (v := acci_) rfl (Step.move rfl) ?_
    refine WL.step (v := acci_) rfl (Step.assign rfl) ?_
    refine WL.nil ?_
    refine W.ret ?_
    refine ⟨.inl rfl, acci_, ?_, ?_⟩
    · exact ⟨rfl, (Res.r1 (show RV _ _ _ (.tmp 2) acci_ from by exact rfl))⟩
    have e16 : l.map timT = (l.take i_).map timT := by
      rw [show i_ = l.length by omega, List.take_length]
    replace M := M.rechunk 0 (c' := own 2 1 acci_ ((l.map timT).length) ((l.map timT).flatMap intE)) rfl (congrArg (fun z => own 2 1 acci_ z.length (z.flatMap intE)) e16.symm)
    replace M : Mem _ _ _ [own 2 1 acci_ ((l.map timT).length) ((l.map timT).flatMap intE)] [SlAt 1 v l.length (l.flatMap intE)] _ := M
    refine ⟨acci_, ?_, M.close [0] rfl (by decide) trivial⟩
    rfl

theorem kit_pick {G : Nat → Prop} {w : World} (i : Int) (n : Int)  (hn : n ≤ 1000000000) (M : Mem G (fun _ => False) w [] [] w) : Rets Try.prog 24 #[(Value.int .i64 i), (Value.int .i64 n)] w fun r w' => r = (Value.int .i64 (pickI i n)) ∧ Mem G (fun _ => False) w [] [] w' := by
  refine Rets.enter 14 _ Try.func24 rfl Try.ntmps24 Try.results24 (by simp) ?_
  refine W.seq' ?_
  refine W.region rfl ?_
  refine WL.step (v := (Value.int .i64 0)) rfl (Step.assign rfl) ?_
  refine WL.nil ?_
  refine W.seq' ?_
  refine W.seq' ?_
  refine W.region rfl ?_
  refine WL.step (v := (Value.int .i64 n)) rfl (Step.move rfl) ?_
  refine WL.step (v := (Value.bool (decide ((n : Int) ≤ (0 : Int))))) rfl (Step.pure (by kernel_rfl)) ?_
  refine WL.nil ?_
  refine W.cond (t := decide ((n : Int) ≤ (0 : Int))) rfl (fun h1 => ?_) (fun h1 => ?_)
  ·
    have h1p := of_decide_eq_true h1
    refine W.seq' ?_
    refine W.region rfl ?_
    refine WL.step (v := (Value.int .i64 0)) rfl (Step.assign rfl) ?_
    refine WL.nil ?_
    refine W.ret ?_
    refine ⟨.inl rfl, (Value.int .i64 0), ?_, ?_⟩
    · exact ⟨rfl, (Res.r1 (show RV _ _ _ (.tmp 4) (Value.int .i64 0) from by exact rfl))⟩
    refine ⟨?_, M.close [] rfl (by decide) trivial⟩
    refine congrArg (Value.int .i64) ?_
    unfold pickI
    first | rw [if_pos (by omega)] | rw [if_neg (by omega)]
  ·
    have h1p := of_decide_eq_false h1
    have htb := fun h0 => tmod_bounds (a := i) (b := n) h0
    refine W.skip ?_
    refine W.seq' ?_
    refine W.region rfl ?_
    refine WL.step (v := (Value.int .i64 i)) rfl (Step.move rfl) ?_
    refine WL.step (v := (Value.int .i64 n)) rfl (Step.move rfl) ?_
    refine WL.step (v := (Value.int .i64 (i.tmod n))) rfl (Step.rem rfl rfl (by omega)) ?_
    refine WL.step (v := (Value.int .i64 n)) rfl (Step.move rfl) ?_
    refine WL.step (v := (Value.int .i64 (i.tmod n + n))) rfl (Step.add rfl rfl (wrap_i64 (by omega))) ?_
    refine WL.step (v := (Value.int .i64 n)) rfl (Step.move rfl) ?_
    refine WL.step (v := (Value.int .i64 ((i.tmod n + n).tmod n))) rfl (Step.rem rfl rfl (by omega)) ?_
    refine WL.step (v := (Value.int .i64 ((i.tmod n + n).tmod n))) rfl (Step.assign rfl) ?_
    refine WL.nil ?_
    refine W.ret ?_
    refine ⟨.inl rfl, (Value.int .i64 ((i.tmod n + n).tmod n)), ?_, ?_⟩
    · exact ⟨rfl, (Res.r1 (show RV _ _ _ (.tmp 4) (Value.int .i64 ((i.tmod n + n).tmod n)) from by exact rfl))⟩
    refine ⟨?_, M.close [] rfl (by decide) trivial⟩
    refine congrArg (Value.int .i64) ?_
    unfold pickI
    first | rw [if_pos (by omega)] | rw [if_neg (by omega)]
end Go.Proofs
