/- Walks. -/
import Derived.Test.YtdaafologmjeeaaTpW1
import Derived.Test.YtdaafologmjeeaaTpLaw11
set_option maxRecDepth 100000
set_option linter.all false
namespace Go.Proofs
open Go Tp
theorem Try.un56 : Und Try.prog 56 (.slice 61) := by unfold Und; kernel_rfl
theorem Try.ag58 : Aggr Try.prog 58 4 := ⟨fun _ => by kernel_rfl, fun _ => by kernel_rfl⟩
theorem Try.el22 : Elem Try.prog 22 (Value.slice none 0 0) 1 24 := Elem.mk (by kernel_rfl)
theorem Try.el26 : Elem Try.prog 26 (Value.slice none 0 0) 1 24 := Elem.mk (by kernel_rfl)
theorem Try.el34 : Elem Try.prog 34 (Value.slice none 0 0) 1 24 := Elem.mk (by kernel_rfl)
theorem Try.el58 : Elem Try.prog 58 (Value.agg #[(Value.bool false), (Value.slice none 0 0), (Value.slice none 0 0), (Value.slice none 0 0)]) 4 80 := Elem.mk (by kernel_rfl)
theorem Try.en22 : Enters Try.prog 22 := fun _ _ => by kernel_rfl
theorem Try.en36 : Enters Try.prog 36 := fun _ _ => by kernel_rfl

theorem law_own {G : Nat → Prop} {w : World} (kv : Value) (dv : Value) (vv : Value) (n : Nd) (hkn : n.keys.length ≤ 1000000) (hdn : n.kids.length ≤ 1000000) (hvn : n.vals.length ≤ 1000000) (M : Mem G (fun _ => False) w [] [SlAt 1 kv n.keys.length (n.keys.flatMap strE), SlAt 2 dv n.kids.length (n.kids.flatMap handleE), SlAt 1 vv n.vals.length (n.vals.flatMap intE)] w) : Rets Try.prog 31 #[(Value.agg #[(Value.bool n.leaf), kv, dv, vv])] w fun r w' => ∃ (kv' : Value) (dv' : Value) (vv' : Value), r = (Value.agg #[(Value.bool n.leaf), kv', dv', vv']) ∧ Mem G (fun _ => False) w [own 9 1 kv' n.keys.length (n.keys.flatMap strE), own 29 2 dv' n.kids.length (n.kids.flatMap handleE), own 3 1 vv' n.vals.length (n.vals.flatMap intE)] [] w' := by
  refine Rets.enter 26 _ Try.func31 rfl Try.ntmps31 Try.results31 (by simp) ?_
  have hle1 := SlAt.le' (M.rep 0 rfl)
  have hle2 := SlAt.le' (M.rep 1 rfl)
  have hle3 := SlAt.le' (M.rep 2 rfl)
  have sl4 : IsSl kv := SlAt.isSl (Mem.rep M 0 rfl)
  have sl5 : IsSl dv := SlAt.isSl (Mem.rep M 1 rfl)
  have sl6 : IsSl vv := SlAt.isSl (Mem.rep M 2 rfl)
  refine W.seq' ?_
  refine W.region rfl ?_
  refine WL.box (v := (Value.agg #[(Value.bool n.leaf), kv, dv, vv])) (c := #[(Value.bool n.leaf), kv, dv, vv]) M rfl rfl rfl (fun b7 w8 hb7 M => ?_)
  refine WL.alloc (c := #[(Value.bool false), (Value.slice none 0 0), (Value.slice none 0 0), (Value.slice none 0 0)]) M rfl Try.el36.zero rfl (fun b9 w10 hb9 M => ?_)
  refine WL.nil ?_
  refine W.seq' ?_
  refine W.region rfl ?_
  refine WL.step (v := (Value.pointer (some ⟨b7, 0, none⟩))) rfl (Step.pure (by kernel_rfl)) ?_
  refine WL.step (v := (Value.bool n.leaf)) rfl (Step.load1 Try.sc4 rfl ((M.cell 1 rfl 0).trans rfl)) ?_
  refine WL.step (v := (Value.agg #[(Value.bool n.leaf), (Value.slice none 0 0), (Value.slice none 0 0), (Value.slice none 0 0)])) rfl (Step.pure (by kernel_rfl)) ?_
  refine WL.alloc (c := #[(Value.bool false), (Value.slice none 0 0), (Value.slice none 0 0), (Value.slice none 0 0)]) M rfl Try.el36.zero rfl (fun b11 w12 hb11 M => ?_)
  refine WL.store (v := (Value.agg #[(Value.bool n.leaf), (Value.slice none 0 0), (Value.slice none 0 0), (Value.slice none 0 0)])) (cs := [(Value.bool n.leaf), (Value.slice none 0 0), (Value.slice none 0 0), (Value.slice none 0 0)]) (c' := #[(Value.bool n.leaf), (Value.slice none 0 0), (Value.slice none 0 0), (Value.slice none 0 0)]) M 0 rfl rfl Try.el36.sized rfl rfl rfl rfl (Nat.le_of_ble_eq_true rfl) (cel_cons rfl (cel_cons rfl (cel_cons rfl (cel_cons rfl cel_nil)))) rfl rfl (fun w13 M => ?_)
  refine WL.nil ?_
  refine W.seq' ?_
  refine W.region rfl ?_
  refine WL.step (v := (Value.pointer (some ⟨b11, 1, none⟩))) rfl (Step.pure (by kernel_rfl)) ?_
  refine WL.step (v := (Value.slice none 0 0)) rfl (Step.load1 Try.sc34 rfl ((M.cell 0 rfl 1).trans rfl)) ?_
  refine WL.step (v := (Value.pointer (some ⟨b7, 1, none⟩))) rfl (Step.pure (by kernel_rfl)) ?_
  refine WL.step (v := kv) rfl (Step.load1 Try.sc34 rfl ((M.cell 2 rfl 1).trans rfl)) ?_
  replace M := M.ownNil 9 1
  replace M : Mem _ _ _ [own 9 1 (Value.slice none 0 0) (([] : List ByteArray).length) (([] : List ByteArray).flatMap strE), blk b11 (.cells #[(Value.bool n.leaf), (Value.slice none 0 0), (Value.slice none 0 0), (Value.slice none 0 0)] 36), blk b9 (.cells #[(Value.bool false), (Value.slice none 0 0), (Value.slice none 0 0), (Value.slice none 0 0)] 36), blk b7 (.cells #[(Value.bool n.leaf), kv, dv, vv] 36)] [SlAt 1 kv n.keys.length (n.keys.flatMap strE), SlAt 2 dv n.kids.length (n.kids.flatMap handleE), SlAt 1 vv n.vals.length (n.vals.flatMap intE)] _ := M
  refine WL.does rfl (M.appendF ([] : List ByteArray) n.keys (sv := kv) 0 Try.un34 Try.el9 rfl (by decide) rfl rfl rfl (M.rep 0 rfl) strE_cel (by have := trivial; simp only [maxLen, List.length_nil, List.length_cons, List.length_append]; omega) (by have := trivial; (try simp only [List.length_nil, List.length_cons, List.length_append]); omega)) ?_
  rintro v14 w15 M
  replace M : Mem _ _ _ [own 9 1 v14 n.keys.length (n.keys.flatMap strE), blk b11 (.cells #[(Value.bool n.leaf), (Value.slice none 0 0), (Value.slice none 0 0), (Value.slice none 0 0)] 36), blk b9 (.cells #[(Value.bool false), (Value.slice none 0 0), (Value.slice none 0 0), (Value.slice none 0 0)] 36), blk b7 (.cells #[(Value.bool n.leaf), kv, dv, vv] 36)] [SlAt 1 kv n.keys.length (n.keys.flatMap strE), SlAt 2 dv n.kids.length (n.kids.flatMap handleE), SlAt 1 vv n.vals.length (n.vals.flatMap intE)] _ := M
  have sl16 : IsSl v14 := SlAt.isSl (own_slAt (M.chunk 0 rfl).inv)
  refine WL.step (v := (Value.pointer (some ⟨b11, 1, none⟩))) rfl (Step.pure (by kernel_rfl)) ?_
  refine WL.store (v := v14) (cs := [v14]) (c' := #[(Value.bool n.leaf), v14, (Value.slice none 0 0), (Value.slice none 0 0)]) M 1 rfl rfl Try.el34.sized rfl rfl (IsSl.list sl16) rfl (Nat.le_of_ble_eq_true rfl) (cel_cons (IsSl.cel sl16) cel_nil) rfl rfl (fun w17 M => ?_)
  refine WL.nil ?_
  refine W.seq' ?_
  refine W.region rfl ?_
  refine WL.step (v := (Value.pointer (some ⟨b11, 2, none⟩))) rfl (Step.pure (by kernel_rfl)) ?_
  refine WL.step (v := (Value.slice none 0 0)) rfl (Step.load1 Try.sc26 rfl ((M.cell 1 rfl 2).trans rfl)) ?_
  refine WL.step (v := (Value.pointer (some ⟨b7, 2, none⟩))) rfl (Step.pure (by kernel_rfl)) ?_
  refine WL.step (v := dv) rfl (Step.load1 Try.sc26 rfl ((M.cell 3 rfl 2).trans rfl)) ?_
  replace M := M.ownNil 29 2
  replace M : Mem _ _ _ [own 29 2 (Value.slice none 0 0) (([] : List Handle).length) (([] : List Handle).flatMap handleE), own 9 1 v14 n.keys.length (n.keys.flatMap strE), blk b11 (.cells #[(Value.bool n.leaf), v14, (Value.slice none 0 0), (Value.slice none 0 0)] 36), blk b9 (.cells #[(Value.bool false), (Value.slice none 0 0), (Value.slice none 0 0), (Value.slice none 0 0)] 36), blk b7 (.cells #[(Value.bool n.leaf), kv, dv, vv] 36)] [SlAt 1 kv n.keys.length (n.keys.flatMap strE), SlAt 2 dv n.kids.length (n.kids.flatMap handleE), SlAt 1 vv n.vals.length (n.vals.flatMap intE)] _ := M
  refine WL.does rfl (M.appendF ([] : List Handle) n.kids (sv := dv) 0 Try.un26 Try.el29 rfl (by decide) rfl rfl rfl (M.rep 1 rfl) handleE_cel (by have := trivial; simp only [maxLen, List.length_nil, List.length_cons, List.length_append]; omega) (by have := trivial; (try simp only [List.length_nil, List.length_cons, List.length_append]); omega)) ?_
  rintro v18 w19 M
  replace M : Mem _ _ _ [own 29 2 v18 n.kids.length (n.kids.flatMap handleE), own 9 1 v14 n.keys.length (n.keys.flatMap strE), blk b11 (.cells #[(Value.bool n.leaf), v14, (Value.slice none 0 0), (Value.slice none 0 0)] 36), blk b9 (.cells #[(Value.bool false), (Value.slice none 0 0), (Value.slice none 0 0), (Value.slice none 0 0)] 36), blk b7 (.cells #[(Value.bool n.leaf), kv, dv, vv] 36)] [SlAt 1 kv n.keys.length (n.keys.flatMap strE), SlAt 2 dv n.kids.length (n.kids.flatMap handleE), SlAt 1 vv n.vals.length (n.vals.flatMap intE)] _ := M
  have sl20 : IsSl v18 := SlAt.isSl (own_slAt (M.chunk 0 rfl).inv)
  refine WL.step (v := (Value.pointer (some ⟨b11, 2, none⟩))) rfl (Step.pure (by kernel_rfl)) ?_
  refine WL.store (v := v18) (cs := [v18]) (c' := #[(Value.bool n.leaf), v14, v18, (Value.slice none 0 0)]) M 2 rfl rfl Try.el26.sized rfl rfl (IsSl.list sl20) rfl (Nat.le_of_ble_eq_true rfl) (cel_cons (IsSl.cel sl20) cel_nil) rfl rfl (fun w21 M => ?_)
  refine WL.nil ?_
  refine W.seq' ?_
  refine W.region rfl ?_
  refine WL.step (v := (Value.pointer (some ⟨b11, 3, none⟩))) rfl (Step.pure (by kernel_rfl)) ?_
  refine WL.step (v := (Value.slice none 0 0)) rfl (Step.load1 Try.sc22 rfl ((M.cell 2 rfl 3).trans rfl)) ?_
  refine WL.step (v := (Value.pointer (some ⟨b7, 3, none⟩))) rfl (Step.pure (by kernel_rfl)) ?_
  refine WL.step (v := vv) rfl (Step.load1 Try.sc22 rfl ((M.cell 4 rfl 3).trans rfl)) ?_
  replace M := M.ownNil 3 1
  replace M : Mem _ _ _ [own 3 1 (Value.slice none 0 0) (([] : List Int).length) (([] : List Int).flatMap intE), own 29 2 v18 n.kids.length (n.kids.flatMap handleE), own 9 1 v14 n.keys.length (n.keys.flatMap strE), blk b11 (.cells #[(Value.bool n.leaf), v14, v18, (Value.slice none 0 0)] 36), blk b9 (.cells #[(Value.bool false), (Value.slice none 0 0), (Value.slice none 0 0), (Value.slice none 0 0)] 36), blk b7 (.cells #[(Value.bool n.leaf), kv, dv, vv] 36)] [SlAt 1 kv n.keys.length (n.keys.flatMap strE), SlAt 2 dv n.kids.length (n.kids.flatMap handleE), SlAt 1 vv n.vals.length (n.vals.flatMap intE)] _ := M
  refine WL.does rfl (M.appendF ([] : List Int) n.vals (sv := vv) 0 Try.un22 Try.el3 rfl (by decide) rfl rfl rfl (M.rep 2 rfl) intE_cel (by have := trivial; simp only [maxLen, List.length_nil, List.length_cons, List.length_append]; omega) (by have := trivial; (try simp only [List.length_nil, List.length_cons, List.length_append]); omega)) ?_
  rintro v22 w23 M
  replace M : Mem _ _ _ [own 3 1 v22 n.vals.length (n.vals.flatMap intE), own 29 2 v18 n.kids.length (n.kids.flatMap handleE), own 9 1 v14 n.keys.length (n.keys.flatMap strE), blk b11 (.cells #[(Value.bool n.leaf), v14, v18, (Value.slice none 0 0)] 36), blk b9 (.cells #[(Value.bool false), (Value.slice none 0 0), (Value.slice none 0 0), (Value.slice none 0 0)] 36), blk b7 (.cells #[(Value.bool n.leaf), kv, dv, vv] 36)] [SlAt 1 kv n.keys.length (n.keys.flatMap strE), SlAt 2 dv n.kids.length (n.kids.flatMap handleE), SlAt 1 vv n.vals.length (n.vals.flatMap intE)] _ := M
  have sl24 : IsSl v22 := SlAt.isSl (own_slAt (M.chunk 0 rfl).inv)
  refine WL.step (v := (Value.pointer (some ⟨b11, 3, none⟩))) rfl (Step.pure (by kernel_rfl)) ?_
  refine WL.store (v := v22) (cs := [v22]) (c' := #[(Value.bool n.leaf), v14, v18, v22]) M 3 rfl rfl Try.el22.sized rfl rfl (IsSl.list sl24) rfl (Nat.le_of_ble_eq_true rfl) (cel_cons (IsSl.cel sl24) cel_nil) rfl rfl (fun w25 M => ?_)
  refine WL.nil ?_
  refine W.seq' ?_
  refine W.region rfl ?_
  refine WL.step (v := (Value.agg #[(Value.bool n.leaf), v14, v18, v22])) rfl (Step.loadN Try.ag36 rfl (M.blk 3 rfl) (Nat.le_of_ble_eq_true rfl) rfl) ?_
  refine WL.store (v := (Value.agg #[(Value.bool n.leaf), v14, v18, v22])) (cs := [(Value.bool n.leaf), v14, v18, v22]) (c' := #[(Value.bool n.leaf), v14, v18, v22]) M 4 rfl rfl Try.el36.sized rfl rfl rfl rfl (Nat.le_of_ble_eq_true rfl) (cel_cons rfl (cel_cons (IsSl.cel sl16) (cel_cons (IsSl.cel sl20) (cel_cons (IsSl.cel sl24) cel_nil)))) rfl rfl (fun w26 M => ?_)
  refine WL.nil ?_
  refine W.ret ?_
  refine ⟨.inl rfl, (Value.agg #[(Value.bool n.leaf), v14, v18, v22]), ?_, ?_⟩
  · exact (Res.r1 (RV.cellN Try.ag36 rfl (M.blk 4 rfl) rfl))
  refine ⟨v14, v18, v22, ?_, M.close [2, 1, 0] rfl (by decide) trivial⟩
  rfl

theorem law_handles {G : Nat → Prop} {w : World} (v : Value) (hs : List Handle) (hb : hs.length ≤ 1000000) (M : Mem G (fun _ => False) w [] [SlAt 2 v hs.length (hs.flatMap handleE)] w) : Rets Try.prog 36 #[v] w fun r w' => ∃ (v' : Value), r = v' ∧ Mem G (fun _ => False) w [own 61 2 v' hs.length (hs.flatMap handleE)] [] w' := by
  refine Rets.enter 20 _ Try.func36 rfl Try.ntmps36 Try.results36 (by simp) ?_
  have hle1 := SlAt.le' (M.rep 0 rfl)
  have sl2 : IsSl v := SlAt.isSl (Mem.rep M 0 rfl)
  refine W.seq' ?_
  refine W.region rfl ?_
  refine WL.step (v := (Value.slice none 0 0)) rfl (Step.assign rfl) ?_
  refine WL.nil ?_
  refine W.seq' ?_
  refine W.region rfl ?_
  refine WL.step (v := (Value.slice none 0 0)) rfl (Step.assign rfl) ?_
  refine WL.nil ?_
  refine W.seq' ?_
  refine W.seq' ?_
  refine W.region rfl ?_
  refine WL.step (v := (Value.int .i64 0)) rfl (Step.assign rfl) ?_
  refine WL.nil ?_
  refine W.block ?_
  replace M := M.ownNil 61 2
  replace M := M.rechunk 0 (c' := own 61 2 (Value.slice none 0 0) (hs.take 0).length ((hs.take 0).flatMap handleE)) rfl rfl
  replace M : Mem _ _ _ [own 61 2 (Value.slice none 0 0) ((hs.take 0).length) ((hs.take 0).flatMap handleE)] [SlAt 2 v hs.length (hs.flatMap handleE)] _ := M
  refine W.loop (fun kk ρ w' => ∃ (i_ : Nat) (acc : Value), ((i_ ≤ hs.length) ∧ kk = hs.length - i_) ∧ ρ.has [(0, v), (2, (Value.slice none 0 0)), (3, acc), (4, (Value.int .i64 ↑i_))] ∧ Mem G (fun _ => False) w [own 61 2 acc ((hs.take i_).length) ((hs.take i_).flatMap handleE)] [SlAt 2 v hs.length (hs.flatMap handleE)]  w') _ ⟨0, _, ⟨(Nat.zero_le _), rfl⟩, ⟨rfl, rfl, rfl, rfl, trivial⟩, M⟩ ?_
  rintro _ ρ4 w3 ⟨i_, acc, ⟨hi5, rfl⟩, hρ, M⟩
  obtain ⟨ρ4, rfl⟩ := hρ.know
  clear hρ
  have sl6 : IsSl acc := SlAt.isSl (own_slAt (M.chunk 0 rfl).inv)
  have htl : (hs.take i_).length ≤ 1000000 := by rw [List.length_take]; omega
  refine W.seq' ?_
  refine W.seq' ?_
  refine W.region rfl ?_
  refine WL.step (v := (Value.int .i64 ↑i_)) rfl (Step.move rfl) ?_
  refine WL.step (v := v) rfl (Step.move rfl) ?_
  refine WL.step (v := (Value.int .i64 ↑hs.length)) rfl (Step.lenSl Try.un26 rfl (M.rep 0 rfl)) ?_
  refine WL.step (v := (Value.bool (decide ((↑i_ : Int) < (↑hs.length : Int))))) rfl (Step.pure (by kernel_rfl)) ?_
  refine WL.nil ?_
  refine W.cond (t := decide ((↑i_ : Int) < (↑hs.length : Int))) rfl (fun h7 => ?_) (fun h7 => ?_)
  ·
    have h7p := of_decide_eq_true h7
    refine W.skip ?_
    refine W.seq' ?_
    refine W.block ?_
    refine W.region rfl ?_
    refine WL.step (v := acc) rfl (Step.move rfl) ?_
    refine WL.step (v := v) rfl (Step.move rfl) ?_
    refine WL.step (v := (Value.int .i64 ↑i_)) rfl (Step.move rfl) ?_
    obtain ⟨cap9, hb8⟩ := SlAt.base (M.rep 0 rfl) (by omega)
    obtain ⟨x10, hx10⟩ := elem_of_lt (xs := hs) (i := i_) (by omega)
    refine WL.step (v := (Value.pointer (some ⟨(sBlk v), sOff v + i_ * 2, none⟩))) rfl (Step.indexAddr (i := i_) (Try.un26).run Try.el29.sized rfl rfl (by omega) hb8 (by omega)) ?_
    refine WL.step (v := (Value.agg #[(Value.int .i64 x10.at_), (Value.int .i64 x10.turn)])) rfl (Step.loadEN (k := 0) (cs' := [(Value.int .i64 x10.at_), (Value.int .i64 x10.turn)]) Try.ag29 (flat_ec (M.rep 0 rfl) hx10 handleE_len) (by decide) rfl rfl rfl) ?_
    refine WL.callX rfl (law_handle x10 (M.enterW0 trivial)) (CallsF.func Try.en22 rfl) ?_
    rintro _ w11 ⟨rfl, m⟩
    replace M := M.leaveW0 m
    clear m
    replace M : Mem _ _ _ [own 61 2 acc ((hs.take i_).length) ((hs.take i_).flatMap handleE)] [SlAt 2 v hs.length (hs.flatMap handleE)] _ := M
    refine WL.new (obj := .cells #[(Value.int .i64 x10.at_), (Value.int .i64 x10.turn)] 61) (fun b => .slice (some ⟨b, 0, none⟩) 1 1) M rfl (fun w => Step.make (by kernel_rfl)) (fun b12 w13 hb12 M => ?_)
    refine WL.does rfl (M.appendF (hs.take i_) ([x10] : List Handle) (sv := (Value.slice (some ⟨b12, 0, none⟩) 1 1)) 1 Try.un56 Try.el61 rfl (by decide) rfl rfl rfl (SlAt.of_blk (M.blk 0 rfl) rfl (by decide)) handleE_cel (by have := htl; simp only [maxLen, List.length_nil, List.length_cons, List.length_append]; omega) (by have := htl; (try simp only [List.length_nil, List.length_cons, List.length_append]); omega)) ?_
    rintro v14 w15 M
    replace M : Mem _ _ _ [blk b12 (.cells #[(Value.int .i64 x10.at_), (Value.int .i64 x10.turn)] 61), own 61 2 v14 (((hs.take i_) ++ ([x10] : List Handle)).length) (((hs.take i_) ++ ([x10] : List Handle)).flatMap handleE)] [SlAt 2 v hs.length (hs.flatMap handleE)] _ := M
    have sl16 : IsSl v14 := SlAt.isSl (own_slAt (M.chunk 1 rfl).inv)
    refine WL.step (v := v14) rfl (Step.assign rfl) ?_
    refine WL.nil ?_
    refine W.region rfl ?_
    refine WL.step (v := (Value.int .i64 ↑i_)) rfl (Step.move rfl) ?_
    refine WL.step (v := (Value.int .i64 (↑i_ + 1))) rfl (Step.add rfl rfl (wrap_i64 (by omega))) ?_
    refine WL.step (v := (Value.int .i64 (↑i_ + 1))) rfl (Step.assign rfl) ?_
    refine WL.nil ?_
    replace M := M.rechunk 1 (c' := own 61 2 v14 ((hs.take (i_ + 1)).length) ((hs.take (i_ + 1)).flatMap handleE)) rfl (by rw [← take_snoc hx10])
    replace M : Mem _ _ _ [blk b12 (.cells #[(Value.int .i64 x10.at_), (Value.int .i64 x10.turn)] 61), own 61 2 v14 ((hs.take (i_ + 1)).length) ((hs.take (i_ + 1)).flatMap handleE)] [SlAt 2 v hs.length (hs.flatMap handleE)] _ := M
    replace M := M.sel (L' := [own 61 2 v14 ((hs.take (i_ + 1)).length) ((hs.take (i_ + 1)).flatMap handleE)]) [1] rfl (by decide)
    exact ⟨_, (by omega), i_ + 1, v14, ⟨(by omega), rfl⟩, ⟨rfl, rfl, rfl, rfl, trivial⟩, M⟩
  ·
    have h7p := of_decide_eq_false h7
    refine W.exit ?_
    refine thn_exit ?_
    refine thn_exit ?_
    refine inBlk_hit ?_
    refine W.seq' ?_
    refine W.region rfl ?_
    refine WL.step (v := acc) rfl (Step.move rfl) ?_
    refine WL.step (v := acc) rfl (Step.assign rfl) ?_
    refine WL.nil ?_
    refine W.ret ?_
    refine ⟨.inl rfl, acc, ?_, ?_⟩
    · exact (Res.r1 (show RV _ _ _ (.tmp 2) acc from by exact rfl))
    have e17 : hs = hs.take i_ := by
      exact (take_all (by omega)).symm
    replace M := M.rechunk 0 (c' := own 61 2 acc hs.length (hs.flatMap handleE)) rfl (congrArg (fun z => own 61 2 acc z.length (z.flatMap handleE)) e17.symm)
    replace M : Mem _ _ _ [own 61 2 acc hs.length (hs.flatMap handleE)] [SlAt 2 v hs.length (hs.flatMap handleE)] _ := M
    refine ⟨acc, ?_, M.close [0] rfl (by decide) trivial⟩
    rfl

theorem law_node {G : Nat → Prop} {w : World} (kv : Value) (dv : Value) (vv : Value) (n : Nd) (hkn : n.keys.length ≤ 1000000) (hdn : n.kids.length ≤ 1000000) (hvn : n.vals.length ≤ 1000000) (M : Mem G (fun _ => False) w [] [SlAt 1 kv n.keys.length (n.keys.flatMap strE), SlAt 2 dv n.kids.length (n.kids.flatMap handleE), SlAt 1 vv n.vals.length (n.vals.flatMap intE)] w) : Rets Try.prog 24 #[(Value.agg #[(Value.bool n.leaf), kv, dv, vv])] w fun r w' => ∃ (kv' : Value) (dv' : Value) (vv' : Value), r = (Value.agg #[(Value.bool n.leaf), kv', dv', vv']) ∧ Mem G (fun _ => False) w [own 9 1 kv' n.keys.length (n.keys.flatMap strE), own 61 2 dv' n.kids.length (n.kids.flatMap handleE), own 3 1 vv' n.vals.length (n.vals.flatMap intE)] [] w' := by
  refine Rets.enter 23 _ Try.func24 rfl Try.ntmps24 Try.results24 (by simp) ?_
  have hle1 := SlAt.le' (M.rep 0 rfl)
  have hle2 := SlAt.le' (M.rep 1 rfl)
  have hle3 := SlAt.le' (M.rep 2 rfl)
  have sl4 : IsSl kv := SlAt.isSl (Mem.rep M 0 rfl)
  have sl5 : IsSl dv := SlAt.isSl (Mem.rep M 1 rfl)
  have sl6 : IsSl vv := SlAt.isSl (Mem.rep M 2 rfl)
  refine W.seq' ?_
  refine W.region rfl ?_
  refine WL.box (v := (Value.agg #[(Value.bool n.leaf), kv, dv, vv])) (c := #[(Value.bool n.leaf), kv, dv, vv]) M rfl rfl rfl (fun b7 w8 hb7 M => ?_)
  refine WL.alloc (c := #[(Value.bool false), (Value.slice none 0 0), (Value.slice none 0 0), (Value.slice none 0 0)]) M rfl Try.el58.zero rfl (fun b9 w10 hb9 M => ?_)
  refine WL.nil ?_
  refine W.seq' ?_
  refine W.drawn M [0, 1, 2, 3, 4, 5, 6, 7] [4, 7] [6] [blk b9 (.cells #[(Value.bool false), (Value.slice none 0 0), (Value.slice none 0 0), (Value.slice none 0 0)] 58), blk b7 (.cells #[(Value.bool n.leaf), kv, dv, vv] 36)] [SlAt 1 kv n.keys.length (n.keys.flatMap strE), SlAt 2 dv n.kids.length (n.kids.flatMap handleE), SlAt 1 vv n.vals.length (n.vals.flatMap intE)] (List.Sublist.cons_cons _ (List.Sublist.cons_cons _ List.Sublist.slnil)) (fun _ h => h) Try.mixed (by kernel_rfl) ?_
  refine TW.pure (v := (Value.pointer (some ⟨b7, 0, none⟩))) rfl (by decide) (by decide) rfl (fun w => (Step.pure (by kernel_rfl))) ?_
  refine TW.read (v := (Value.bool n.leaf)) rfl (by decide) (by decide) rfl (fun A w M => (Step.load1 Try.sc4 rfl ((M.cell 2 rfl 0).trans rfl))) ?_
  refine TW.pure (v := (Value.pointer (some ⟨b7, 2, none⟩))) rfl (by decide) (by decide) rfl (fun w => (Step.pure (by kernel_rfl))) ?_
  refine TW.read (v := dv) rfl (by decide) (by decide) rfl (fun A w M => (Step.load1 Try.sc26 rfl ((M.cell 2 rfl 2).trans rfl))) ?_
  refine TW.callX (ι := Value) (fun jx v_ => v_ = jx) (fun jx => [own 61 2 jx n.kids.length (n.kids.flatMap handleE), blk b9 (.cells #[(Value.bool false), (Value.slice none 0 0), (Value.slice none 0 0), (Value.slice none 0 0)] 58), blk b7 (.cells #[(Value.bool n.leaf), kv, dv, vv] 36)]) (fun jx => [SlAt 1 kv n.keys.length (n.keys.flatMap strE), SlAt 2 dv n.kids.length (n.kids.flatMap handleE), SlAt 1 vv n.vals.length (n.vals.flatMap intE)]) rfl (by decide) rfl (fun jx => (List.Sublist.cons _ (List.Sublist.cons_cons _ (List.Sublist.cons_cons _ List.Sublist.slnil)))) (fun jx r h => h) (fun A w M => Rets.mono (law_handles dv n.kids (by omega) (M.enterW0 ⟨(M.wideR0 1 rfl), trivial⟩)) (fun v_ w_ ⟨v19, e_, m⟩ => ⟨v19, e_, (M.leaveW0 m).sel (L' := [fl A, own 61 2 v19 n.kids.length (n.kids.flatMap handleE), blk b9 (.cells #[(Value.bool false), (Value.slice none 0 0), (Value.slice none 0 0), (Value.slice none 0 0)] 58), blk b7 (.cells #[(Value.bool n.leaf), kv, dv, vv] 36)]) [1, 0, 2, 3] rfl (by decide), fun b hb => M.keptW0 m (fl A) (List.mem_cons_self ..) b hb⟩)) (fun w => CallsF.func Try.en36 rfl) (fun v19 v hp hin => ?_)
  replace hp := hp.symm; subst hp
  obtain ⟨_, _, hin⟩ := hin
  have sl20 : IsSl v19 := SlAt.isSl (own_slAt (Mem.chunk hin 1 rfl).inv)
  have hle21 := SlAt.le' (own_slAt (Mem.chunk hin 1 rfl).inv)
  clear hin
  change TW _ _ _ _ _ _ _ _ (MemA _ _ _ [own 61 2 v19 n.kids.length (n.kids.flatMap handleE), blk b9 (.cells #[(Value.bool false), (Value.slice none 0 0), (Value.slice none 0 0), (Value.slice none 0 0)] 58), blk b7 (.cells #[(Value.bool n.leaf), kv, dv, vv] 36)] [SlAt 1 kv n.keys.length (n.keys.flatMap strE), SlAt 2 dv n.kids.length (n.kids.flatMap handleE), SlAt 1 vv n.vals.length (n.vals.flatMap intE)])
  refine TW.pure (v := (Value.agg #[(Value.bool n.leaf), (Value.slice none 0 0), v19, (Value.slice none 0 0)])) rfl (by decide) (by decide) rfl (fun w => (by obtain ⟨_, _, _, e⟩ := sl20; subst e; exact (Step.pure (by kernel_rfl)))) ?_
  refine TW.new (obj := .cells #[(Value.bool false), (Value.slice none 0 0), (Value.slice none 0 0), (Value.slice none 0 0)] 58) (fun b => .pointer (some ⟨b, 0, none⟩)) rfl (by decide) (by decide) rfl (fun w => Step.alloc Try.el58.zero) (fun b22 => ?_)
  refine TW.store (v := (Value.agg #[(Value.bool n.leaf), (Value.slice none 0 0), v19, (Value.slice none 0 0)])) (cs := [(Value.bool n.leaf), (Value.slice none 0 0), v19, (Value.slice none 0 0)]) (c' := #[(Value.bool n.leaf), (Value.slice none 0 0), v19, (Value.slice none 0 0)]) 0 rfl rfl (by decide) rfl Try.el58.sized rfl rfl rfl rfl (Nat.le_of_ble_eq_true rfl) (cel_cons rfl (cel_cons rfl (cel_cons (IsSl.cel sl20) (cel_cons rfl cel_nil)))) rfl rfl (List.Sublist.cons _ (List.Sublist.cons _ (List.Sublist.cons_cons _ (List.Sublist.cons_cons _ List.Sublist.slnil)))) (fun r h => h) ?_
  refine TW.done (fun w23 M => ?_)
  refine W.seq' ?_
  refine W.region rfl ?_
  refine WL.step (v := (Value.pointer (some ⟨b22, 1, none⟩))) rfl (Step.pure (by kernel_rfl)) ?_
  refine WL.step (v := (Value.slice none 0 0)) rfl (Step.load1 Try.sc34 rfl ((M.cell 0 rfl 1).trans rfl)) ?_
  refine WL.step (v := (Value.pointer (some ⟨b7, 1, none⟩))) rfl (Step.pure (by kernel_rfl)) ?_
  refine WL.step (v := kv) rfl (Step.load1 Try.sc34 rfl ((M.cell 3 rfl 1).trans rfl)) ?_
  replace M := M.ownNil 9 1
  replace M : Mem _ _ _ [own 9 1 (Value.slice none 0 0) (([] : List ByteArray).length) (([] : List ByteArray).flatMap strE), blk b22 (.cells #[(Value.bool n.leaf), (Value.slice none 0 0), v19, (Value.slice none 0 0)] 58), own 61 2 v19 n.kids.length (n.kids.flatMap handleE), blk b9 (.cells #[(Value.bool false), (Value.slice none 0 0), (Value.slice none 0 0), (Value.slice none 0 0)] 58), blk b7 (.cells #[(Value.bool n.leaf), kv, dv, vv] 36)] [SlAt 1 kv n.keys.length (n.keys.flatMap strE), SlAt 2 dv n.kids.length (n.kids.flatMap handleE), SlAt 1 vv n.vals.length (n.vals.flatMap intE)] _ := M
  refine WL.does rfl (M.appendF ([] : List ByteArray) n.keys (sv := kv) 0 Try.un34 Try.el9 rfl (by decide) rfl rfl rfl (M.rep 0 rfl) strE_cel (by have := trivial; simp only [maxLen, List.length_nil, List.length_cons, List.length_append]; omega) (by have := trivial; (try simp only [List.length_nil, List.length_cons, List.length_append]); omega)) ?_
  rintro v24 w25 M
  replace M : Mem _ _ _ [own 9 1 v24 n.keys.length (n.keys.flatMap strE), blk b22 (.cells #[(Value.bool n.leaf), (Value.slice none 0 0), v19, (Value.slice none 0 0)] 58), own 61 2 v19 n.kids.length (n.kids.flatMap handleE), blk b9 (.cells #[(Value.bool false), (Value.slice none 0 0), (Value.slice none 0 0), (Value.slice none 0 0)] 58), blk b7 (.cells #[(Value.bool n.leaf), kv, dv, vv] 36)] [SlAt 1 kv n.keys.length (n.keys.flatMap strE), SlAt 2 dv n.kids.length (n.kids.flatMap handleE), SlAt 1 vv n.vals.length (n.vals.flatMap intE)] _ := M
  have sl26 : IsSl v24 := SlAt.isSl (own_slAt (M.chunk 0 rfl).inv)
  refine WL.step (v := (Value.pointer (some ⟨b22, 1, none⟩))) rfl (Step.pure (by kernel_rfl)) ?_
  refine WL.store (v := v24) (cs := [v24]) (c' := #[(Value.bool n.leaf), v24, v19, (Value.slice none 0 0)]) M 1 rfl rfl Try.el34.sized rfl rfl (IsSl.list sl26) rfl (Nat.le_of_ble_eq_true rfl) (cel_cons (IsSl.cel sl26) cel_nil) rfl rfl (fun w27 M => ?_)
  refine WL.nil ?_
  refine W.seq' ?_
  refine W.region rfl ?_
  refine WL.step (v := (Value.pointer (some ⟨b22, 3, none⟩))) rfl (Step.pure (by kernel_rfl)) ?_
  refine WL.step (v := (Value.slice none 0 0)) rfl (Step.load1 Try.sc22 rfl ((M.cell 1 rfl 3).trans rfl)) ?_
  refine WL.step (v := (Value.pointer (some ⟨b7, 3, none⟩))) rfl (Step.pure (by kernel_rfl)) ?_
  refine WL.step (v := vv) rfl (Step.load1 Try.sc22 rfl ((M.cell 4 rfl 3).trans rfl)) ?_
  replace M := M.ownNil 3 1
  replace M : Mem _ _ _ [own 3 1 (Value.slice none 0 0) (([] : List Int).length) (([] : List Int).flatMap intE), own 9 1 v24 n.keys.length (n.keys.flatMap strE), blk b22 (.cells #[(Value.bool n.leaf), v24, v19, (Value.slice none 0 0)] 58), own 61 2 v19 n.kids.length (n.kids.flatMap handleE), blk b9 (.cells #[(Value.bool false), (Value.slice none 0 0), (Value.slice none 0 0), (Value.slice none 0 0)] 58), blk b7 (.cells #[(Value.bool n.leaf), kv, dv, vv] 36)] [SlAt 1 kv n.keys.length (n.keys.flatMap strE), SlAt 2 dv n.kids.length (n.kids.flatMap handleE), SlAt 1 vv n.vals.length (n.vals.flatMap intE)] _ := M
  refine WL.does rfl (M.appendF ([] : List Int) n.vals (sv := vv) 0 Try.un22 Try.el3 rfl (by decide) rfl rfl rfl (M.rep 2 rfl) intE_cel (by have := trivial; simp only [maxLen, List.length_nil, List.length_cons, List.length_append]; omega) (by have := trivial; (try simp only [List.length_nil, List.length_cons, List.length_append]); omega)) ?_
  rintro v28 w29 M
  replace M : Mem _ _ _ [own 3 1 v28 n.vals.length (n.vals.flatMap intE), own 9 1 v24 n.keys.length (n.keys.flatMap strE), blk b22 (.cells #[(Value.bool n.leaf), v24, v19, (Value.slice none 0 0)] 58), own 61 2 v19 n.kids.length (n.kids.flatMap handleE), blk b9 (.cells #[(Value.bool false), (Value.slice none 0 0), (Value.slice none 0 0), (Value.slice none 0 0)] 58), blk b7 (.cells #[(Value.bool n.leaf), kv, dv, vv] 36)] [SlAt 1 kv n.keys.length (n.keys.flatMap strE), SlAt 2 dv n.kids.length (n.kids.flatMap handleE), SlAt 1 vv n.vals.length (n.vals.flatMap intE)] _ := M
  have sl30 : IsSl v28 := SlAt.isSl (own_slAt (M.chunk 0 rfl).inv)
  refine WL.step (v := (Value.pointer (some ⟨b22, 3, none⟩))) rfl (Step.pure (by kernel_rfl)) ?_
  refine WL.store (v := v28) (cs := [v28]) (c' := #[(Value.bool n.leaf), v24, v19, v28]) M 2 rfl rfl Try.el22.sized rfl rfl (IsSl.list sl30) rfl (Nat.le_of_ble_eq_true rfl) (cel_cons (IsSl.cel sl30) cel_nil) rfl rfl (fun w31 M => ?_)
  refine WL.nil ?_
  refine W.seq' ?_
  refine W.region rfl ?_
  refine WL.step (v := (Value.agg #[(Value.bool n.leaf), v24, v19, v28])) rfl (Step.loadN Try.ag58 rfl (M.blk 2 rfl) (Nat.le_of_ble_eq_true rfl) rfl) ?_
  refine WL.store (v := (Value.agg #[(Value.bool n.leaf), v24, v19, v28])) (cs := [(Value.bool n.leaf), v24, v19, v28]) (c' := #[(Value.bool n.leaf), v24, v19, v28]) M 4 rfl rfl Try.el58.sized rfl rfl rfl rfl (Nat.le_of_ble_eq_true rfl) (cel_cons rfl (cel_cons (IsSl.cel sl26) (cel_cons (IsSl.cel sl20) (cel_cons (IsSl.cel sl30) cel_nil)))) rfl rfl (fun w32 M => ?_)
  refine WL.nil ?_
  refine W.ret ?_
  refine ⟨.inl rfl, (Value.agg #[(Value.bool n.leaf), v24, v19, v28]), ?_, ?_⟩
  · exact (Res.r1 (RV.cellN Try.ag58 rfl (M.blk 4 rfl) rfl))
  refine ⟨v24, v19, v28, ?_, M.close [1, 3, 0] rfl (by decide) trivial⟩
  rfl

theorem law_spoil {G X : Nat → Prop} {w : World} (kv : Value) (dv : Value) (vv : Value) (n : Nd)  (M : Mem G X w [own 9 1 kv n.keys.length (n.keys.flatMap strE), own 29 2 dv n.kids.length (n.kids.flatMap handleE), own 3 1 vv n.vals.length (n.vals.flatMap intE)] [] w) : Rets Try.prog 33 #[(Value.agg #[(Value.bool n.leaf), kv, dv, vv])] w fun r w' => r = undef ∧ Mem G X w [] [] w' := by
  refine Rets.enter 39 _ Try.func33 rfl Try.ntmps33 Try.results33 (by simp) ?_
  have sl1 : IsSl kv := SlAt.isSl (own_slAt (Mem.chunk M 0 rfl).inv)
  have hle2 := SlAt.le' (own_slAt (Mem.chunk M 0 rfl).inv)
  have sl3 : IsSl dv := SlAt.isSl (own_slAt (Mem.chunk M 1 rfl).inv)
  have hle4 := SlAt.le' (own_slAt (Mem.chunk M 1 rfl).inv)
  have sl5 : IsSl vv := SlAt.isSl (own_slAt (Mem.chunk M 2 rfl).inv)
  have hle6 := SlAt.le' (own_slAt (Mem.chunk M 2 rfl).inv)
  refine W.seq' ?_
  refine W.region rfl ?_
  refine WL.box (v := (Value.agg #[(Value.bool n.leaf), kv, dv, vv])) (c := #[(Value.bool n.leaf), kv, dv, vv]) M rfl rfl rfl (fun b7 w8 hb7 M => ?_)
  refine WL.nil ?_
  refine W.seq' ?_
  refine W.seq' ?_
  refine W.region rfl ?_
  refine WL.step (v := (Value.int .i64 0)) rfl (Step.assign rfl) ?_
  refine WL.nil ?_
  refine W.block ?_
  refine W.loop (fun kk ρ w' => ∃ (ja_ : Nat) (ka_ : List ByteArray), ((ja_ ≤ ka_.length) ∧ (ka_.length = n.keys.length) ∧ kk = n.keys.length - ja_) ∧ ρ.has [(1, (Value.pointer (some ⟨b7, 0, none⟩))), (2, (Value.int .i64 ↑ja_))] ∧ Mem G X w [blk b7 (.cells #[(Value.bool n.leaf), kv, dv, vv] 36), own 9 1 kv ka_.length (ka_.flatMap strE), own 29 2 dv n.kids.length (n.kids.flatMap handleE), own 3 1 vv n.vals.length (n.vals.flatMap intE)] []  w') _ ⟨0, n.keys, ⟨(Nat.zero_le _), rfl, rfl⟩, ⟨rfl, rfl, trivial⟩, M⟩ ?_
  rintro _ ρ10 w9 ⟨ja_, ka_, ⟨hi11, hi12, rfl⟩, hρ, M⟩
  obtain ⟨ρ10, rfl⟩ := hρ.know
  clear hρ
  refine W.seq' ?_
  refine W.seq' ?_
  refine W.region rfl ?_
  refine WL.step (v := (Value.int .i64 ↑ja_)) rfl (Step.move rfl) ?_
  refine WL.step (v := (Value.pointer (some ⟨b7, 1, none⟩))) rfl (Step.pure (by kernel_rfl)) ?_
  refine WL.step (v := kv) rfl (Step.load1 Try.sc34 rfl ((M.cell 0 rfl 1).trans rfl)) ?_
  refine WL.step (v := (Value.int .i64 ↑ka_.length)) rfl (Step.lenSl Try.un34 rfl (own_slAt (M.chunk 1 rfl).inv)) ?_
  refine WL.step (v := (Value.bool (decide ((↑ja_ : Int) < (↑ka_.length : Int))))) rfl (Step.pure (by kernel_rfl)) ?_
  refine WL.nil ?_
  refine W.cond (t := decide ((↑ja_ : Int) < (↑ka_.length : Int))) rfl (fun h13 => ?_) (fun h13 => ?_)
  ·
    have h13p := of_decide_eq_true h13
    refine W.skip ?_
    refine W.seq' ?_
    refine W.block ?_
    refine W.region rfl ?_
    refine WL.step (v := (Value.pointer (some ⟨b7, 1, none⟩))) rfl (Step.pure (by kernel_rfl)) ?_
    refine WL.step (v := kv) rfl (Step.load1 Try.sc34 rfl ((M.cell 0 rfl 1).trans rfl)) ?_
    refine WL.step (v := (Value.int .i64 ↑ja_)) rfl (Step.move rfl) ?_
    obtain ⟨cap15, hb14⟩ := SlAt.base (own_slAt (M.chunk 1 rfl).inv) (by omega)
    obtain ⟨x16, hx16⟩ := elem_of_lt (xs := ka_) (i := ja_) (by omega)
    refine WL.step (v := (Value.pointer (some ⟨(sBlk kv), sOff kv + ja_ * 1, none⟩))) rfl (Step.indexAddr (i := ja_) (Try.un34).run Try.el9.sized rfl rfl (by omega) hb14 (by omega)) ?_
    obtain ⟨pre17, post18, hcs19, hpre20, hback21⟩ := flat_open strE_len hx16
    replace M := M.rechunk 1 (c' := own 9 1 kv ka_.length (pre17 ++ ([(Value.string x16)] ++ post18))) rfl (by rw [hcs19]; rfl)
    replace M : Mem _ _ _ [blk b7 (.cells #[(Value.bool n.leaf), kv, dv, vv] 36), own 9 1 kv ka_.length (pre17 ++ ([(Value.string x16)] ++ post18)), own 29 2 dv n.kids.length (n.kids.flatMap handleE), own 3 1 vv n.vals.length (n.vals.flatMap intE)] [] _ := M
    refine WL.act rfl (M.storeAt (cells := [(Value.string x16)]) (cells' := [(Value.string (⟨#[63]⟩))]) (new := [(Value.string (⟨#[63]⟩))]) (k := 0) 1 rfl hpre20 Try.el9.sized rfl rfl rfl (cel_cons rfl cel_nil) (by first | omega | (simp only [List.length_set, List.length_append, List.length_cons, List.length_nil]; omega)) (Nat.le_of_ble_eq_true rfl) rfl rfl) ?_
    rintro w22 ⟨M, -⟩
    replace M : Mem _ _ _ [blk b7 (.cells #[(Value.bool n.leaf), kv, dv, vv] 36), own 9 1 kv ka_.length (pre17 ++ ([(Value.string (⟨#[63]⟩))] ++ post18)), own 29 2 dv n.kids.length (n.kids.flatMap handleE), own 3 1 vv n.vals.length (n.vals.flatMap intE)] [] _ := M
    refine WL.nil ?_
    refine W.region rfl ?_
    refine WL.step (v := (Value.int .i64 ↑ja_)) rfl (Step.move rfl) ?_
    refine WL.step (v := (Value.int .i64 (↑ja_ + 1))) rfl (Step.add rfl rfl (wrap_i64 (by omega))) ?_
    refine WL.step (v := (Value.int .i64 (↑ja_ + 1))) rfl (Step.assign rfl) ?_
    refine WL.nil ?_
    replace M := M.rechunk 1 (c' := own 9 1 kv (ka_.length) ((ka_.set ja_ (⟨#[63]⟩)).flatMap strE)) rfl (by rw [← hback21]; rfl)
    replace M := M.rechunk 1 (c' := own 9 1 kv ((ka_.set ja_ (⟨#[63]⟩)).length) ((ka_.set ja_ (⟨#[63]⟩)).flatMap strE)) rfl (by rw [List.length_set])
    replace M : Mem _ _ _ [blk b7 (.cells #[(Value.bool n.leaf), kv, dv, vv] 36), own 9 1 kv ((ka_.set ja_ (⟨#[63]⟩)).length) ((ka_.set ja_ (⟨#[63]⟩)).flatMap strE), own 29 2 dv n.kids.length (n.kids.flatMap handleE), own 3 1 vv n.vals.length (n.vals.flatMap intE)] [] _ := M
    exact ⟨_, (by omega), ja_ + 1, ka_.set ja_ (⟨#[63]⟩), ⟨(by rw [List.length_set]; omega), (by rw [List.length_set]; omega), rfl⟩, ⟨rfl, rfl, trivial⟩, M⟩
  ·
    have h13p := of_decide_eq_false h13
    refine W.exit ?_
    refine thn_exit ?_
    refine thn_exit ?_
    refine inBlk_hit ?_
    refine W.seq' ?_
    refine W.seq' ?_
    refine W.region rfl ?_
    refine WL.step (v := (Value.int .i64 0)) rfl (Step.assign rfl) ?_
    refine WL.nil ?_
    refine W.block ?_
    refine W.loop (fun kk ρ w' => ∃ (jb_ : Nat) (kb_ : List Handle), ((jb_ ≤ kb_.length) ∧ (kb_.length = n.kids.length) ∧ kk = n.kids.length - jb_) ∧ ρ.has [(1, (Value.pointer (some ⟨b7, 0, none⟩))), (3, (Value.int .i64 ↑jb_))] ∧ Mem G X w [blk b7 (.cells #[(Value.bool n.leaf), kv, dv, vv] 36), own 9 1 kv ka_.length (ka_.flatMap strE), own 29 2 dv kb_.length (kb_.flatMap handleE), own 3 1 vv n.vals.length (n.vals.flatMap intE)] []  w') _ ⟨0, n.kids, ⟨(Nat.zero_le _), rfl, rfl⟩, ⟨rfl, rfl, trivial⟩, M⟩ ?_
    rintro _ ρ24 w23 ⟨jb_, kb_, ⟨hi25, hi26, rfl⟩, hρ, M⟩
    obtain ⟨ρ24, rfl⟩ := hρ.know
    clear hρ
    refine W.seq' ?_
    refine W.seq' ?_
    refine W.region rfl ?_
    refine WL.step (v := (Value.int .i64 ↑jb_)) rfl (Step.move rfl) ?_
    refine WL.step (v := (Value.pointer (some ⟨b7, 2, none⟩))) rfl (Step.pure (by kernel_rfl)) ?_
    refine WL.step (v := dv) rfl (Step.load1 Try.sc26 rfl ((M.cell 0 rfl 2).trans rfl)) ?_
    refine WL.step (v := (Value.int .i64 ↑kb_.length)) rfl (Step.lenSl Try.un26 rfl (own_slAt (M.chunk 2 rfl).inv)) ?_
    refine WL.step (v := (Value.bool (decide ((↑jb_ : Int) < (↑kb_.length : Int))))) rfl (Step.pure (by kernel_rfl)) ?_
    refine WL.nil ?_
    refine W.cond (t := decide ((↑jb_ : Int) < (↑kb_.length : Int))) rfl (fun h27 => ?_) (fun h27 => ?_)
    ·
      have h27p := of_decide_eq_true h27
      refine W.skip ?_
      refine W.seq' ?_
      refine W.block ?_
      refine W.region rfl ?_
      refine WL.step (v := (Value.pointer (some ⟨b7, 2, none⟩))) rfl (Step.pure (by kernel_rfl)) ?_
      refine WL.step (v := dv) rfl (Step.load1 Try.sc26 rfl ((M.cell 0 rfl 2).trans rfl)) ?_
      refine WL.step (v := (Value.int .i64 ↑jb_)) rfl (Step.move rfl) ?_
      refine WL.step (v := (Value.agg #[(Value.int .i64 (-9)), (Value.int .i64 0)])) rfl (Step.pure (by kernel_rfl)) ?_
      obtain ⟨cap29, hb28⟩ := SlAt.base (own_slAt (M.chunk 2 rfl).inv) (by omega)
      obtain ⟨x30, hx30⟩ := elem_of_lt (xs := kb_) (i := jb_) (by omega)
      refine WL.step (v := (Value.pointer (some ⟨(sBlk dv), sOff dv + jb_ * 2, none⟩))) rfl (Step.indexAddr (i := jb_) (Try.un26).run Try.el29.sized rfl rfl (by omega) hb28 (by omega)) ?_
      obtain ⟨pre31, post32, hcs33, hpre34, hback35⟩ := flat_open handleE_len hx30
      replace M := M.rechunk 2 (c' := own 29 2 dv kb_.length (pre31 ++ ([(Value.int .i64 x30.at_), (Value.int .i64 x30.turn)] ++ post32))) rfl (by rw [hcs33]; rfl)
      replace M : Mem _ _ _ [blk b7 (.cells #[(Value.bool n.leaf), kv, dv, vv] 36), own 9 1 kv ka_.length (ka_.flatMap strE), own 29 2 dv kb_.length (pre31 ++ ([(Value.int .i64 x30.at_), (Value.int .i64 x30.turn)] ++ post32)), own 3 1 vv n.vals.length (n.vals.flatMap intE)] [] _ := M
      refine WL.act rfl (M.storeAt (cells := [(Value.int .i64 x30.at_), (Value.int .i64 x30.turn)]) (cells' := [(Value.int .i64 (-9)), (Value.int .i64 0)]) (new := [(Value.int .i64 (-9)), (Value.int .i64 0)]) (k := 0) 2 rfl hpre34 Try.el29.sized rfl rfl rfl (cel_cons rfl (cel_cons rfl cel_nil)) (by first | omega | (simp only [List.length_set, List.length_append, List.length_cons, List.length_nil]; omega)) (Nat.le_of_ble_eq_true rfl) rfl rfl) ?_
      rintro w36 ⟨M, -⟩
      replace M : Mem _ _ _ [blk b7 (.cells #[(Value.bool n.leaf), kv, dv, vv] 36), own 9 1 kv ka_.length (ka_.flatMap strE), own 29 2 dv kb_.length (pre31 ++ ([(Value.int .i64 (-9)), (Value.int .i64 0)] ++ post32)), own 3 1 vv n.vals.length (n.vals.flatMap intE)] [] _ := M
      refine WL.nil ?_
      refine W.region rfl ?_
      refine WL.step (v := (Value.int .i64 ↑jb_)) rfl (Step.move rfl) ?_
      refine WL.step (v := (Value.int .i64 (↑jb_ + 1))) rfl (Step.add rfl rfl (wrap_i64 (by omega))) ?_
      refine WL.step (v := (Value.int .i64 (↑jb_ + 1))) rfl (Step.assign rfl) ?_
      refine WL.nil ?_
      replace M := M.rechunk 2 (c' := own 29 2 dv (kb_.length) ((kb_.set jb_ (⟨-9, 0⟩ : Handle)).flatMap handleE)) rfl (by rw [← hback35]; rfl)
      replace M := M.rechunk 2 (c' := own 29 2 dv ((kb_.set jb_ (⟨-9, 0⟩ : Handle)).length) ((kb_.set jb_ (⟨-9, 0⟩ : Handle)).flatMap handleE)) rfl (by rw [List.length_set])
      replace M : Mem _ _ _ [blk b7 (.cells #[(Value.bool n.leaf), kv, dv, vv] 36), own 9 1 kv ka_.length (ka_.flatMap strE), own 29 2 dv ((kb_.set jb_ (⟨-9, 0⟩ : Handle)).length) ((kb_.set jb_ (⟨-9, 0⟩ : Handle)).flatMap handleE), own 3 1 vv n.vals.length (n.vals.flatMap intE)] [] _ := M
      exact ⟨_, (by omega), jb_ + 1, kb_.set jb_ (⟨-9, 0⟩ : Handle), ⟨(by rw [List.length_set]; omega), (by rw [List.length_set]; omega), rfl⟩, ⟨rfl, rfl, trivial⟩, M⟩
    ·
      have h27p := of_decide_eq_false h27
      refine W.exit ?_
      refine thn_exit ?_
      refine thn_exit ?_
      refine inBlk_hit ?_
      refine W.seq' ?_
      refine W.region rfl ?_
      refine WL.step (v := (Value.int .i64 0)) rfl (Step.assign rfl) ?_
      refine WL.nil ?_
      refine W.block ?_
      refine W.loop (fun kk ρ w' => ∃ (jc_ : Nat) (kc_ : List Int), ((jc_ ≤ kc_.length) ∧ (kc_.length = n.vals.length) ∧ kk = n.vals.length - jc_) ∧ ρ.has [(1, (Value.pointer (some ⟨b7, 0, none⟩))), (4, (Value.int .i64 ↑jc_))] ∧ Mem G X w [blk b7 (.cells #[(Value.bool n.leaf), kv, dv, vv] 36), own 9 1 kv ka_.length (ka_.flatMap strE), own 29 2 dv kb_.length (kb_.flatMap handleE), own 3 1 vv kc_.length (kc_.flatMap intE)] []  w') _ ⟨0, n.vals, ⟨(Nat.zero_le _), rfl, rfl⟩, ⟨rfl, rfl, trivial⟩, M⟩ ?_
      rintro _ ρ38 w37 ⟨jc_, kc_, ⟨hi39, hi40, rfl⟩, hρ, M⟩
      obtain ⟨ρ38, rfl⟩ := hρ.know
      clear hρ
      refine W.seq' ?_
      refine W.seq' ?_
      refine W.region rfl ?_
      refine WL.step (v := (Value.int .i64 ↑jc_)) rfl (Step.move rfl) ?_
      refine WL.step (v := (Value.pointer (some ⟨b7, 3, none⟩))) rfl (Step.pure (by kernel_rfl)) ?_
      refine WL.step (v := vv) rfl (Step.load1 Try.sc22 rfl ((M.cell 0 rfl 3).trans rfl)) ?_
      refine WL.step (v := (Value.int .i64 ↑kc_.length)) rfl (Step.lenSl Try.un22 rfl (own_slAt (M.chunk 3 rfl).inv)) ?_
      refine WL.step (v := (Value.bool (decide ((↑jc_ : Int) < (↑kc_.length : Int))))) rfl (Step.pure (by kernel_rfl)) ?_
      refine WL.nil ?_
      refine W.cond (t := decide ((↑jc_ : Int) < (↑kc_.length : Int))) rfl (fun h41 => ?_) (fun h41 => ?_)
      ·
        have h41p := of_decide_eq_true h41
        refine W.skip ?_
        refine W.seq' ?_
        refine W.block ?_
        refine W.region rfl ?_
        refine WL.step (v := (Value.pointer (some ⟨b7, 3, none⟩))) rfl (Step.pure (by kernel_rfl)) ?_
        refine WL.step (v := vv) rfl (Step.load1 Try.sc22 rfl ((M.cell 0 rfl 3).trans rfl)) ?_
        refine WL.step (v := (Value.int .i64 ↑jc_)) rfl (Step.move rfl) ?_
        obtain ⟨cap43, hb42⟩ := SlAt.base (own_slAt (M.chunk 3 rfl).inv) (by omega)
        obtain ⟨x44, hx44⟩ := elem_of_lt (xs := kc_) (i := jc_) (by omega)
        refine WL.step (v := (Value.pointer (some ⟨(sBlk vv), sOff vv + jc_ * 1, none⟩))) rfl (Step.indexAddr (i := jc_) (Try.un22).run Try.el3.sized rfl rfl (by omega) hb42 (by omega)) ?_
        obtain ⟨pre45, post46, hcs47, hpre48, hback49⟩ := flat_open intE_len hx44
        replace M := M.rechunk 3 (c' := own 3 1 vv kc_.length (pre45 ++ ([(Value.int .i64 x44)] ++ post46))) rfl (by rw [hcs47]; rfl)
        replace M : Mem _ _ _ [blk b7 (.cells #[(Value.bool n.leaf), kv, dv, vv] 36), own 9 1 kv ka_.length (ka_.flatMap strE), own 29 2 dv kb_.length (kb_.flatMap handleE), own 3 1 vv kc_.length (pre45 ++ ([(Value.int .i64 x44)] ++ post46))] [] _ := M
        refine WL.act rfl (M.storeAt (cells := [(Value.int .i64 x44)]) (cells' := [(Value.int .i64 (-9))]) (new := [(Value.int .i64 (-9))]) (k := 0) 3 rfl hpre48 Try.el3.sized rfl rfl rfl (cel_cons rfl cel_nil) (by first | omega | (simp only [List.length_set, List.length_append, List.length_cons, List.length_nil]; omega)) (Nat.le_of_ble_eq_true rfl) rfl rfl) ?_
        rintro w50 ⟨M, -⟩
        replace M : Mem _ _ _ [blk b7 (.cells #[(Value.bool n.leaf), kv, dv, vv] 36), own 9 1 kv ka_.length (ka_.flatMap strE), own 29 2 dv kb_.length (kb_.flatMap handleE), own 3 1 vv kc_.length (pre45 ++ ([(Value.int .i64 (-9))] ++ post46))] [] _ := M
        refine WL.nil ?_
        refine W.region rfl ?_
        refine WL.step (v := (Value.int .i64 ↑jc_)) rfl (Step.move rfl) ?_
        refine WL.step (v := (Value.int .i64 (↑jc_ + 1))) rfl (Step.add rfl rfl (wrap_i64 (by omega))) ?_
        refine WL.step (v := (Value.int .i64 (↑jc_ + 1))) rfl (Step.assign rfl) ?_
        refine WL.nil ?_
        replace M := M.rechunk 3 (c' := own 3 1 vv (kc_.length) ((kc_.set jc_ (-9)).flatMap intE)) rfl (by rw [← hback49]; rfl)
        replace M := M.rechunk 3 (c' := own 3 1 vv ((kc_.set jc_ (-9)).length) ((kc_.set jc_ (-9)).flatMap intE)) rfl (by rw [List.length_set])
        replace M : Mem _ _ _ [blk b7 (.cells #[(Value.bool n.leaf), kv, dv, vv] 36), own 9 1 kv ka_.length (ka_.flatMap strE), own 29 2 dv kb_.length (kb_.flatMap handleE), own 3 1 vv ((kc_.set jc_ (-9)).length) ((kc_.set jc_ (-9)).flatMap intE)] [] _ := M
        exact ⟨_, (by omega), jc_ + 1, kc_.set jc_ (-9), ⟨(by rw [List.length_set]; omega), (by rw [List.length_set]; omega), rfl⟩, ⟨rfl, rfl, trivial⟩, M⟩
      ·
        have h41p := of_decide_eq_false h41
        refine W.exit ?_
        refine thn_exit ?_
        refine thn_exit ?_
        refine inBlk_hit ?_
        refine ⟨.inr rfl, undef, ?_, ?_⟩
        · exact Res.none
        refine ⟨?_, M.close [] rfl (by decide) trivial⟩
        rfl

theorem kit_pick {G : Nat → Prop} {w : World} (i : Int) (n : Int) (hn : n ≤ 1000000000) (M : Mem G (fun _ => False) w [] [] w) : Rets Try.prog 11 #[(Value.int .i64 i), (Value.int .i64 n)] w fun r w' => r = (Value.int .i64 (pickI i n)) ∧ Mem G (fun _ => False) w [] [] w' := by
  refine Rets.enter 14 _ Try.func11 rfl Try.ntmps11 Try.results11 (by simp) ?_
  refine W.seq' ?_
  refine W.region rfl ?_
  refine WL.step (v := (Value.int .i64 0)) rfl (Step.assign rfl) ?_
  refine WL.nil ?_
  refine W.seq' ?_
  refine W.seq' ?_
  refine W.region rfl ?_
  refine WL.step (v := (Value.int .i64 n)) rfl (Step.move rfl) ?_
  refine WL.step (v := (Value.bool (decide ((n : Int) ≤ (0 : Int))))) rfl (Step.pure (by kernel_rfl)) ?_
  refine WL.nil ?_
  refine W.cond (t := decide ((n : Int) ≤ (0 : Int))) rfl (fun h1 => ?_) (fun h1 => ?_)
  ·
    have h1p := of_decide_eq_true h1
    refine W.seq' ?_
    refine W.region rfl ?_
    refine WL.step (v := (Value.int .i64 0)) rfl (Step.assign rfl) ?_
    refine WL.nil ?_
    refine W.ret ?_
    refine ⟨.inl rfl, (Value.int .i64 0), ?_, ?_⟩
    · exact (Res.r1 (show RV _ _ _ (.tmp 4) (Value.int .i64 0) from by exact rfl))
    refine ⟨?_, M.close [] rfl (by decide) trivial⟩
    refine congrArg (Value.int .i64) ?_
    unfold pickI
    first | rw [if_pos (by omega)] | rw [if_neg (by omega)]
  ·
    have h1p := of_decide_eq_false h1
    have htb := fun h0 => tmod_bounds (a := i) (b := n) h0
    refine W.skip ?_
    refine W.seq' ?_
    refine W.region rfl ?_
    refine WL.step (v := (Value.int .i64 i)) rfl (Step.move rfl) ?_
    refine WL.step (v := (Value.int .i64 n)) rfl (Step.move rfl) ?_
    refine WL.step (v := (Value.int .i64 (i.tmod n))) rfl (Step.rem rfl rfl (by omega)) ?_
    refine WL.step (v := (Value.int .i64 n)) rfl (Step.move rfl) ?_
    refine WL.step (v := (Value.int .i64 (i.tmod n + n))) rfl (Step.add rfl rfl (wrap_i64 (by omega))) ?_
    refine WL.step (v := (Value.int .i64 n)) rfl (Step.move rfl) ?_
    refine WL.step (v := (Value.int .i64 ((i.tmod n + n).tmod n))) rfl (Step.rem rfl rfl (by omega)) ?_
    refine WL.step (v := (Value.int .i64 ((i.tmod n + n).tmod n))) rfl (Step.assign rfl) ?_
    refine WL.nil ?_
    refine W.ret ?_
    refine ⟨.inl rfl, (Value.int .i64 ((i.tmod n + n).tmod n)), ?_, ?_⟩
    · exact (Res.r1 (show RV _ _ _ (.tmp 4) (Value.int .i64 ((i.tmod n + n).tmod n)) from by exact rfl))
    refine ⟨?_, M.close [] rfl (by decide) trivial⟩
    refine congrArg (Value.int .i64) ?_
    unfold pickI
    first | rw [if_pos (by omega)] | rw [if_neg (by omega)]
end Go.Proofs
