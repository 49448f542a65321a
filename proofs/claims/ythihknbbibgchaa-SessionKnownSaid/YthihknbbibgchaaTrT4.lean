/- Walks. -/
import Derived.Test.YthihknbbibgchaaTrT3
set_option maxRecDepth 100000
set_option linter.all false
namespace Go.Proofs
open Go Tp
theorem Try.en38 : Enters Try.prog 38 := fun _ _ => by kernel_rfl
theorem Try.en40 : Enters Try.prog 40 := fun _ _ => by kernel_rfl
theorem Try.en61 : Enters Try.prog 61 := fun _ _ => by kernel_rfl
theorem Try.en64 : Enters Try.prog 64 := fun _ _ => by kernel_rfl

theorem ses_ins {G : Nat → Prop} {w : World} (gap : Int) (t : Int) (v : Value) (xs : List Span)  (hb : xs.length ≤ 1000000) (hin : ∀ s, s ∈ xs → in64 s.start ∧ in64 s.fin) (ho : okI gap t xs = true) (M : Mem G (fun _ => False) w [] [SlAt 2 v xs.length (xs.flatMap spanE)] w) : Rets Try.prog 32 #[(Value.int .i64 gap), (Value.int .i64 t), v] w fun r w' => ∃ (j' : Value) (a' : Value), r = (Value.tuple #[j', (Value.agg #[(Value.int .i64 ((insN xs (⟨t, t + gap⟩ : Span)).start)), (Value.int .i64 ((insN xs (⟨t, t + gap⟩ : Span)).fin))]), a', (Value.int .i64 0)]) ∧ Mem G (fun _ => False) w [own 65 2 j' ((insJ xs (⟨t, t + gap⟩ : Span)).length) ((insJ xs (⟨t, t + gap⟩ : Span)).flatMap spanE), own 65 2 a' ((insA xs (⟨t, t + gap⟩ : Span)).length) ((insA xs (⟨t, t + gap⟩ : Span)).flatMap spanE)] [] w' := by
  refine Rets.enter 76 _ Try.func32 rfl Try.ntmps32 Try.results32 (by simp) ?_
  have hle1 := SlAt.le' (M.rep 0 rfl)
  have sl2 : IsSl v := SlAt.isSl (Mem.rep M 0 rfl)
  have hm_ := mayB_one (okI_may ho)
  have hcan_ := right_canon (okI_right ho)
  refine W.seq' ?_
  refine W.region rfl ?_
  refine WL.step (v := (Value.slice none 0 0)) rfl (Step.assign rfl) ?_
  refine WL.alloc (c := #[(Value.int .i64 0), (Value.int .i64 0)]) M rfl Try.el65.zero rfl (fun b3 w4 hb3 M => ?_)
  refine WL.step (v := (Value.slice none 0 0)) rfl (Step.assign rfl) ?_
  refine WL.step (v := (Value.int .i64 0)) rfl (Step.assign rfl) ?_
  refine WL.nil ?_
  refine W.seq' ?_
  refine W.seq' ?_
  refine W.region rfl ?_
  refine WL.step (v := (Value.int .i64 gap)) rfl (Step.move rfl) ?_
  refine WL.step (v := (Value.int .i64 t)) rfl (Step.move rfl) ?_
  refine WL.new (obj := .cells #[(Value.int .i64 t)] 2) (fun b => .slice (some ⟨b, 0, none⟩) 1 1) M rfl (fun w => Step.make (by kernel_rfl)) (fun b5 w6 hb5 M => ?_)
  refine WL.callX rfl (ses_may gap (Value.slice (some ⟨b5, 0, none⟩) 1 1) ([t] : List Int) (M.enterW0 ⟨((M.wideC0 0 rfl).imp fun _ h => SlAt.of_blk (n := 1) (size := 1) h rfl (by decide)), trivial⟩)) (CallsF.func Try.en60 rfl) ?_
  rintro _ w7 ⟨rfl, m⟩
  replace M := M.leaveW0 m
  clear m
  replace M : Mem _ _ _ [blk b5 (.cells #[(Value.int .i64 t)] 2), blk b3 (.cells #[(Value.int .i64 0), (Value.int .i64 0)] 65)] [SlAt 2 v xs.length (xs.flatMap spanE)] _ := M
  rw [(okI_may ho)]
  refine WL.step (v := (Value.bool false)) rfl (Step.pure (by kernel_rfl)) ?_
  refine WL.step (v := (Value.bool false)) rfl (Step.move rfl) ?_
  refine WL.step (v := (Value.int .i64 gap)) rfl (Step.move rfl) ?_
  refine WL.step (v := v) rfl (Step.move rfl) ?_
  refine WL.callX rfl (ses_right gap v xs (by first | assumption | decide) (by first | assumption | (unfold in64; omega)) (M.enterW0 ⟨(M.wideR0 0 rfl), trivial⟩)) (CallsF.func Try.en40 rfl) ?_
  rintro _ w8 ⟨rfl, m⟩
  replace M := M.leaveW0 m
  clear m
  replace M : Mem _ _ _ [blk b5 (.cells #[(Value.int .i64 t)] 2), blk b3 (.cells #[(Value.int .i64 0), (Value.int .i64 0)] 65)] [SlAt 2 v xs.length (xs.flatMap spanE)] _ := M
  rw [(okI_right ho)]
  refine WL.step (v := (Value.bool false)) rfl (Step.pure (by kernel_rfl)) ?_
  refine WL.step (v := (Value.bool false)) rfl (Step.pick (t := false) rfl rfl) ?_
  refine WL.nil ?_
  refine W.cond (t := false) rfl (fun h => by cases h) (fun _ => ?_)
  refine W.skip ?_
  refine W.seq' ?_
  refine W.region rfl ?_
  refine WL.step (v := (Value.int .i64 t)) rfl (Step.move rfl) ?_
  refine WL.step (v := (Value.int .i64 t)) rfl (Step.move rfl) ?_
  refine WL.step (v := (Value.int .i64 gap)) rfl (Step.move rfl) ?_
  refine WL.step (v := (Value.int .i64 (t + gap))) rfl (Step.add rfl rfl (wrap_i64 (by omega))) ?_
  refine WL.step (v := (Value.agg #[(Value.int .i64 t), (Value.int .i64 (t + gap))])) rfl (Step.pure (by kernel_rfl)) ?_
  refine WL.alloc (c := #[(Value.int .i64 0), (Value.int .i64 0)]) M rfl Try.el65.zero rfl (fun b9 w10 hb9 M => ?_)
  refine WL.store (v := (Value.agg #[(Value.int .i64 t), (Value.int .i64 (t + gap))])) (cs := [(Value.int .i64 t), (Value.int .i64 (t + gap))]) (c' := #[(Value.int .i64 t), (Value.int .i64 (t + gap))]) M 0 rfl rfl Try.el65.sized rfl rfl rfl rfl (Nat.le_of_ble_eq_true rfl) (cel_cons rfl (cel_cons rfl cel_nil)) rfl rfl (fun w11 M => ?_)
  refine WL.nil ?_
  refine W.seq' ?_
  refine W.region rfl ?_
  refine WL.step (v := (Value.agg #[(Value.int .i64 t), (Value.int .i64 (t + gap))])) rfl (Step.loadN Try.ag65 rfl (M.blk 0 rfl) (Nat.le_of_ble_eq_true rfl) rfl) ?_
  refine WL.store (v := (Value.agg #[(Value.int .i64 t), (Value.int .i64 (t + gap))])) (cs := [(Value.int .i64 t), (Value.int .i64 (t + gap))]) (c' := #[(Value.int .i64 t), (Value.int .i64 (t + gap))]) M 2 rfl rfl Try.el65.sized rfl rfl rfl rfl (Nat.le_of_ble_eq_true rfl) (cel_cons rfl (cel_cons rfl cel_nil)) rfl rfl (fun w12 M => ?_)
  refine WL.nil ?_
  refine W.seq' ?_
  refine W.seq' ?_
  refine W.region rfl ?_
  refine WL.step (v := v) rfl (Step.move rfl) ?_
  refine WL.step (v := (Value.int .i64 ↑xs.length)) rfl (Step.lenSl Try.un58 rfl (M.rep 0 rfl)) ?_
  refine WL.step (v := (Value.int .i64 0)) rfl (Step.move rfl) ?_
  refine WL.nil ?_
  refine W.block ?_
  replace M := M.ownNil 65 2
  replace M : Mem _ _ _ [own 65 2 (Value.slice none 0 0) (([] : List Span).length) (([] : List Span).flatMap spanE), blk b9 (.cells #[(Value.int .i64 t), (Value.int .i64 (t + gap))] 65), blk b5 (.cells #[(Value.int .i64 t)] 2), blk b3 (.cells #[(Value.int .i64 t), (Value.int .i64 (t + gap))] 65)] [SlAt 2 v xs.length (xs.flatMap spanE)] _ := M
  replace M := M.ownNil 65 2
  replace M : Mem _ _ _ [own 65 2 (Value.slice none 0 0) (([] : List Span).length) (([] : List Span).flatMap spanE), own 65 2 (Value.slice none 0 0) (([] : List Span).length) (([] : List Span).flatMap spanE), blk b9 (.cells #[(Value.int .i64 t), (Value.int .i64 (t + gap))] 65), blk b5 (.cells #[(Value.int .i64 t)] 2), blk b3 (.cells #[(Value.int .i64 t), (Value.int .i64 (t + gap))] 65)] [SlAt 2 v xs.length (xs.flatMap spanE)] _ := M
  replace M := M.rechunk 0 (c' := own 65 2 (Value.slice none 0 0) ((insJ (xs.take 0) (⟨t, t + gap⟩ : Span)).length) ((insJ (xs.take 0) (⟨t, t + gap⟩ : Span)).flatMap spanE)) rfl rfl
  replace M : Mem _ _ _ [own 65 2 (Value.slice none 0 0) ((insJ (xs.take 0) (⟨t, t + gap⟩ : Span)).length) ((insJ (xs.take 0) (⟨t, t + gap⟩ : Span)).flatMap spanE), own 65 2 (Value.slice none 0 0) (([] : List Span).length) (([] : List Span).flatMap spanE), blk b9 (.cells #[(Value.int .i64 t), (Value.int .i64 (t + gap))] 65), blk b5 (.cells #[(Value.int .i64 t)] 2), blk b3 (.cells #[(Value.int .i64 t), (Value.int .i64 (t + gap))] 65)] [SlAt 2 v xs.length (xs.flatMap spanE)] _ := M
  replace M := M.rechunk 1 (c' := own 65 2 (Value.slice none 0 0) ((insR (xs.take 0) (⟨t, t + gap⟩ : Span)).length) ((insR (xs.take 0) (⟨t, t + gap⟩ : Span)).flatMap spanE)) rfl rfl
  replace M : Mem _ _ _ [own 65 2 (Value.slice none 0 0) ((insJ (xs.take 0) (⟨t, t + gap⟩ : Span)).length) ((insJ (xs.take 0) (⟨t, t + gap⟩ : Span)).flatMap spanE), own 65 2 (Value.slice none 0 0) ((insR (xs.take 0) (⟨t, t + gap⟩ : Span)).length) ((insR (xs.take 0) (⟨t, t + gap⟩ : Span)).flatMap spanE), blk b9 (.cells #[(Value.int .i64 t), (Value.int .i64 (t + gap))] 65), blk b5 (.cells #[(Value.int .i64 t)] 2), blk b3 (.cells #[(Value.int .i64 t), (Value.int .i64 (t + gap))] 65)] [SlAt 2 v xs.length (xs.flatMap spanE)] _ := M
  replace M := M.rechunk 4 (c' := blk b3 (.cells #[(Value.int .i64 ((insN (xs.take 0) (⟨t, t + gap⟩ : Span)).start)), (Value.int .i64 ((insN (xs.take 0) (⟨t, t + gap⟩ : Span)).fin))] 65)) rfl rfl
  replace M : Mem _ _ _ [own 65 2 (Value.slice none 0 0) ((insJ (xs.take 0) (⟨t, t + gap⟩ : Span)).length) ((insJ (xs.take 0) (⟨t, t + gap⟩ : Span)).flatMap spanE), own 65 2 (Value.slice none 0 0) ((insR (xs.take 0) (⟨t, t + gap⟩ : Span)).length) ((insR (xs.take 0) (⟨t, t + gap⟩ : Span)).flatMap spanE), blk b9 (.cells #[(Value.int .i64 t), (Value.int .i64 (t + gap))] 65), blk b5 (.cells #[(Value.int .i64 t)] 2), blk b3 (.cells #[(Value.int .i64 ((insN (xs.take 0) (⟨t, t + gap⟩ : Span)).start)), (Value.int .i64 ((insN (xs.take 0) (⟨t, t + gap⟩ : Span)).fin))] 65)] [SlAt 2 v xs.length (xs.flatMap spanE)] _ := M
  replace M := M.sel (L' := [own 65 2 (Value.slice none 0 0) ((insJ (xs.take 0) (⟨t, t + gap⟩ : Span)).length) ((insJ (xs.take 0) (⟨t, t + gap⟩ : Span)).flatMap spanE), own 65 2 (Value.slice none 0 0) ((insR (xs.take 0) (⟨t, t + gap⟩ : Span)).length) ((insR (xs.take 0) (⟨t, t + gap⟩ : Span)).flatMap spanE), blk b3 (.cells #[(Value.int .i64 ((insN (xs.take 0) (⟨t, t + gap⟩ : Span)).start)), (Value.int .i64 ((insN (xs.take 0) (⟨t, t + gap⟩ : Span)).fin))] 65), blk b9 (.cells #[(Value.int .i64 t), (Value.int .i64 (t + gap))] 65), blk b5 (.cells #[(Value.int .i64 t)] 2)]) [0, 1, 4, 2, 3] rfl (by decide)
  replace M : Mem _ _ _ [own 65 2 (Value.slice none 0 0) ((insJ (xs.take 0) (⟨t, t + gap⟩ : Span)).length) ((insJ (xs.take 0) (⟨t, t + gap⟩ : Span)).flatMap spanE), own 65 2 (Value.slice none 0 0) ((insR (xs.take 0) (⟨t, t + gap⟩ : Span)).length) ((insR (xs.take 0) (⟨t, t + gap⟩ : Span)).flatMap spanE), blk b3 (.cells #[(Value.int .i64 ((insN (xs.take 0) (⟨t, t + gap⟩ : Span)).start)), (Value.int .i64 ((insN (xs.take 0) (⟨t, t + gap⟩ : Span)).fin))] 65), blk b9 (.cells #[(Value.int .i64 t), (Value.int .i64 (t + gap))] 65), blk b5 (.cells #[(Value.int .i64 t)] 2)] [SlAt 2 v xs.length (xs.flatMap spanE)] _ := M
  refine W.loop (fun kk ρ w' => ∃ (i_ : Nat) (jv_ : Value) (rv_ : Value), ((i_ ≤ xs.length) ∧ kk = xs.length - i_) ∧ ρ.has [(6, jv_), (7, (Value.pointer (some ⟨b3, 0, none⟩))), (8, rv_), (9, (Value.int .i64 0)), (10, (Value.pointer (some ⟨b9, 0, none⟩))), (33, v), (34, (Value.int .i64 ↑xs.length)), (35, (Value.int .i64 ↑i_))] ∧ Mem G (fun _ => False) w [own 65 2 jv_ ((insJ (xs.take i_) (⟨t, t + gap⟩ : Span)).length) ((insJ (xs.take i_) (⟨t, t + gap⟩ : Span)).flatMap spanE), own 65 2 rv_ ((insR (xs.take i_) (⟨t, t + gap⟩ : Span)).length) ((insR (xs.take i_) (⟨t, t + gap⟩ : Span)).flatMap spanE), blk b3 (.cells #[(Value.int .i64 ((insN (xs.take i_) (⟨t, t + gap⟩ : Span)).start)), (Value.int .i64 ((insN (xs.take i_) (⟨t, t + gap⟩ : Span)).fin))] 65), blk b9 (.cells #[(Value.int .i64 t), (Value.int .i64 (t + gap))] 65), blk b5 (.cells #[(Value.int .i64 t)] 2)] [SlAt 2 v xs.length (xs.flatMap spanE)]  w') _ ⟨0, _, _, ⟨(Nat.zero_le _), rfl⟩, ⟨rfl, rfl, rfl, rfl, rfl, rfl, rfl, rfl, rfl, rfl⟩, M⟩ ?_
  rintro _ ρ14 w13 ⟨i_, jv_, rv_, ⟨hi15, rfl⟩, hρ, M⟩
  obtain ⟨ρ14, rfl⟩ := hρ.know
  clear hρ
  have sl16 : IsSl jv_ := SlAt.isSl (own_slAt (M.chunk 0 rfl).inv)
  have sl17 : IsSl rv_ := SlAt.isSl (own_slAt (M.chunk 1 rfl).inv)
  have hjl_ := insJ_len (xs.take i_) (⟨t, t + gap⟩ : Span)
  have hrl_ := insR_len (xs.take i_) (⟨t, t + gap⟩ : Span)
  rw [List.length_take] at hjl_ hrl_
  refine W.seq' ?_
  refine W.region rfl ?_
  refine WL.step (v := (Value.bool (decide ((↑i_ : Int) < (↑xs.length : Int))))) rfl (Step.pure (by kernel_rfl)) ?_
  refine WL.nil ?_
  refine W.seq' ?_
  refine W.cond (t := decide ((↑i_ : Int) < (↑xs.length : Int))) rfl (fun h18 => ?_) (fun h18 => ?_)
  ·
    have h18p := of_decide_eq_true h18
    refine W.skip ?_
    refine W.seq' ?_
    refine W.block ?_
    refine W.seq' ?_
    refine W.region rfl ?_
    obtain ⟨cap20, hb19⟩ := SlAt.base (M.rep 0 rfl) (by omega)
    obtain ⟨x21, hx21⟩ := elem_of_lt (xs := xs) (i := i_) (by omega)
    obtain ⟨⟨_, _⟩, ⟨_, _⟩⟩ : (-9223372036854775808 ≤ x21.start ∧ x21.start ≤ 9223372036854775807) ∧ (-9223372036854775808 ≤ x21.fin ∧ x21.fin ≤ 9223372036854775807) := hin _ (List.mem_of_getElem? hx21)
    refine WL.step (v := (Value.pointer (some ⟨(sBlk v), sOff v + i_ * 2, none⟩))) rfl (Step.indexAddr (i := i_) (Try.un58).run Try.el65.sized rfl rfl (by omega) hb19 (by omega)) ?_
    refine WL.step (v := (Value.agg #[(Value.int .i64 x21.start), (Value.int .i64 x21.fin)])) rfl (Step.loadEN (k := 0) (cs' := [(Value.int .i64 x21.start), (Value.int .i64 x21.fin)]) Try.ag65 (flat_ec (M.rep 0 rfl) hx21 spanE_len) (by decide) rfl rfl rfl) ?_
    refine WL.alloc (c := #[(Value.int .i64 0), (Value.int .i64 0)]) M rfl Try.el65.zero rfl (fun b22 w23 hb22 M => ?_)
    refine WL.store (v := (Value.agg #[(Value.int .i64 x21.start), (Value.int .i64 x21.fin)])) (cs := [(Value.int .i64 x21.start), (Value.int .i64 x21.fin)]) (c' := #[(Value.int .i64 x21.start), (Value.int .i64 x21.fin)]) M 0 rfl rfl Try.el65.sized rfl rfl rfl rfl (Nat.le_of_ble_eq_true rfl) (cel_cons rfl (cel_cons rfl cel_nil)) rfl rfl (fun w24 M => ?_)
    refine WL.nil ?_
    refine W.seq' ?_
    refine W.seq' ?_
    refine W.region rfl ?_
    refine WL.step (v := (Value.agg #[(Value.int .i64 x21.start), (Value.int .i64 x21.fin)])) rfl (Step.loadN Try.ag65 rfl (M.blk 0 rfl) (Nat.le_of_ble_eq_true rfl) rfl) ?_
    refine WL.step (v := (Value.agg #[(Value.int .i64 t), (Value.int .i64 (t + gap))])) rfl (Step.loadN Try.ag65 rfl (M.blk 4 rfl) (Nat.le_of_ble_eq_true rfl) rfl) ?_
    refine WL.callX rfl (ses_over x21 (⟨t, t + gap⟩ : Span) (M.enterW0 trivial)) (CallsF.func Try.en38 rfl) ?_
    rintro _ w25 ⟨rfl, m⟩
    replace M := M.leaveW0 m
    clear m
    replace M : Mem _ _ _ [blk b22 (.cells #[(Value.int .i64 x21.start), (Value.int .i64 x21.fin)] 65), own 65 2 jv_ ((insJ (xs.take i_) (⟨t, t + gap⟩ : Span)).length) ((insJ (xs.take i_) (⟨t, t + gap⟩ : Span)).flatMap spanE), own 65 2 rv_ ((insR (xs.take i_) (⟨t, t + gap⟩ : Span)).length) ((insR (xs.take i_) (⟨t, t + gap⟩ : Span)).flatMap spanE), blk b3 (.cells #[(Value.int .i64 ((insN (xs.take i_) (⟨t, t + gap⟩ : Span)).start)), (Value.int .i64 ((insN (xs.take i_) (⟨t, t + gap⟩ : Span)).fin))] 65), blk b9 (.cells #[(Value.int .i64 t), (Value.int .i64 (t + gap))] 65), blk b5 (.cells #[(Value.int .i64 t)] 2)] [SlAt 2 v xs.length (xs.flatMap spanE)] _ := M
    refine WL.step (v := (Value.bool (!(overS2 x21 (⟨t, t + gap⟩ : Span))))) rfl (Step.pure (by kernel_rfl)) ?_
    refine WL.nil ?_
    refine W.cond (t := !(overS2 x21 (⟨t, t + gap⟩ : Span))) rfl (fun h26 => ?_) (fun h26 => ?_)
    ·
      refine W.seq' ?_
      refine W.region rfl ?_
      refine WL.step (v := rv_) rfl (Step.move rfl) ?_
      refine WL.step (v := (Value.agg #[(Value.int .i64 x21.start), (Value.int .i64 x21.fin)])) rfl (Step.loadN Try.ag65 rfl (M.blk 0 rfl) (Nat.le_of_ble_eq_true rfl) rfl) ?_
      refine WL.new (obj := .cells #[(Value.int .i64 x21.start), (Value.int .i64 x21.fin)] 65) (fun b => .slice (some ⟨b, 0, none⟩) 1 1) M rfl (fun w => Step.make (by kernel_rfl)) (fun b27 w28 hb27 M => ?_)
      refine WL.does rfl (M.appendF (insR (xs.take i_) (⟨t, t + gap⟩ : Span)) ([x21] : List Span) (sv := (Value.slice (some ⟨b27, 0, none⟩) 1 1)) 3 Try.un58 Try.el65 rfl (by decide) rfl rfl rfl (SlAt.of_blk (M.blk 0 rfl) rfl (by decide)) spanE_cel (by have := (show (insJ (xs.take i_) (⟨t, t + gap⟩ : Span)).length ≤ 1000000 ∧ (insR (xs.take i_) (⟨t, t + gap⟩ : Span)).length ≤ 1000000 by omega); simp only [maxLen, List.length_nil, List.length_cons, List.length_append]; omega) (by have := (show (insJ (xs.take i_) (⟨t, t + gap⟩ : Span)).length ≤ 1000000 ∧ (insR (xs.take i_) (⟨t, t + gap⟩ : Span)).length ≤ 1000000 by omega); (try simp only [List.length_nil, List.length_cons, List.length_append]); omega)) ?_
      rintro v29 w30 M
      replace M : Mem _ _ _ [blk b27 (.cells #[(Value.int .i64 x21.start), (Value.int .i64 x21.fin)] 65), blk b22 (.cells #[(Value.int .i64 x21.start), (Value.int .i64 x21.fin)] 65), own 65 2 jv_ ((insJ (xs.take i_) (⟨t, t + gap⟩ : Span)).length) ((insJ (xs.take i_) (⟨t, t + gap⟩ : Span)).flatMap spanE), own 65 2 v29 (((insR (xs.take i_) (⟨t, t + gap⟩ : Span)) ++ ([x21] : List Span)).length) (((insR (xs.take i_) (⟨t, t + gap⟩ : Span)) ++ ([x21] : List Span)).flatMap spanE), blk b3 (.cells #[(Value.int .i64 ((insN (xs.take i_) (⟨t, t + gap⟩ : Span)).start)), (Value.int .i64 ((insN (xs.take i_) (⟨t, t + gap⟩ : Span)).fin))] 65), blk b9 (.cells #[(Value.int .i64 t), (Value.int .i64 (t + gap))] 65), blk b5 (.cells #[(Value.int .i64 t)] 2)] [SlAt 2 v xs.length (xs.flatMap spanE)] _ := M
      have sl31 : IsSl v29 := SlAt.isSl (own_slAt (M.chunk 3 rfl).inv)
      refine WL.step (v := v29) rfl (Step.assign rfl) ?_
      refine WL.nil ?_
      refine W.exit ?_
      refine thn_exit ?_
      refine inBlk_hit ?_
      refine W.region rfl ?_
      refine WL.step (v := (Value.int .i64 (↑i_ + 1))) rfl (Step.add rfl rfl (wrap_i64 (by omega))) ?_
      refine WL.step (v := (Value.int .i64 (↑i_ + 1))) rfl (Step.move rfl) ?_
      refine WL.nil ?_
      replace M := M.rechunk 2 (c' := own 65 2 jv_ ((insJ (xs.take (i_ + 1)) (⟨t, t + gap⟩ : Span)).length) ((insJ (xs.take (i_ + 1)) (⟨t, t + gap⟩ : Span)).flatMap spanE)) rfl (by rw [insJ_miss hx21 (by simpa using h26)])
      replace M : Mem _ _ _ [blk b27 (.cells #[(Value.int .i64 x21.start), (Value.int .i64 x21.fin)] 65), blk b22 (.cells #[(Value.int .i64 x21.start), (Value.int .i64 x21.fin)] 65), own 65 2 jv_ ((insJ (xs.take (i_ + 1)) (⟨t, t + gap⟩ : Span)).length) ((insJ (xs.take (i_ + 1)) (⟨t, t + gap⟩ : Span)).flatMap spanE), own 65 2 v29 (((insR (xs.take i_) (⟨t, t + gap⟩ : Span)) ++ ([x21] : List Span)).length) (((insR (xs.take i_) (⟨t, t + gap⟩ : Span)) ++ ([x21] : List Span)).flatMap spanE), blk b3 (.cells #[(Value.int .i64 ((insN (xs.take i_) (⟨t, t + gap⟩ : Span)).start)), (Value.int .i64 ((insN (xs.take i_) (⟨t, t + gap⟩ : Span)).fin))] 65), blk b9 (.cells #[(Value.int .i64 t), (Value.int .i64 (t + gap))] 65), blk b5 (.cells #[(Value.int .i64 t)] 2)] [SlAt 2 v xs.length (xs.flatMap spanE)] _ := M
      replace M := M.rechunk 3 (c' := own 65 2 v29 ((insR (xs.take (i_ + 1)) (⟨t, t + gap⟩ : Span)).length) ((insR (xs.take (i_ + 1)) (⟨t, t + gap⟩ : Span)).flatMap spanE)) rfl (by rw [insR_miss hx21 (by simpa using h26)])
      replace M : Mem _ _ _ [blk b27 (.cells #[(Value.int .i64 x21.start), (Value.int .i64 x21.fin)] 65), blk b22 (.cells #[(Value.int .i64 x21.start), (Value.int .i64 x21.fin)] 65), own 65 2 jv_ ((insJ (xs.take (i_ + 1)) (⟨t, t + gap⟩ : Span)).length) ((insJ (xs.take (i_ + 1)) (⟨t, t + gap⟩ : Span)).flatMap spanE), own 65 2 v29 ((insR (xs.take (i_ + 1)) (⟨t, t + gap⟩ : Span)).length) ((insR (xs.take (i_ + 1)) (⟨t, t + gap⟩ : Span)).flatMap spanE), blk b3 (.cells #[(Value.int .i64 ((insN (xs.take i_) (⟨t, t + gap⟩ : Span)).start)), (Value.int .i64 ((insN (xs.take i_) (⟨t, t + gap⟩ : Span)).fin))] 65), blk b9 (.cells #[(Value.int .i64 t), (Value.int .i64 (t + gap))] 65), blk b5 (.cells #[(Value.int .i64 t)] 2)] [SlAt 2 v xs.length (xs.flatMap spanE)] _ := M
      replace M := M.rechunk 4 (c' := blk b3 (.cells #[(Value.int .i64 ((insN (xs.take (i_ + 1)) (⟨t, t + gap⟩ : Span)).start)), (Value.int .i64 ((insN (xs.take (i_ + 1)) (⟨t, t + gap⟩ : Span)).fin))] 65)) rfl (by rw [insN_miss hx21 (by simpa using h26)])
      replace M : Mem _ _ _ [blk b27 (.cells #[(Value.int .i64 x21.start), (Value.int .i64 x21.fin)] 65), blk b22 (.cells #[(Value.int .i64 x21.start), (Value.int .i64 x21.fin)] 65), own 65 2 jv_ ((insJ (xs.take (i_ + 1)) (⟨t, t + gap⟩ : Span)).length) ((insJ (xs.take (i_ + 1)) (⟨t, t + gap⟩ : Span)).flatMap spanE), own 65 2 v29 ((insR (xs.take (i_ + 1)) (⟨t, t + gap⟩ : Span)).length) ((insR (xs.take (i_ + 1)) (⟨t, t + gap⟩ : Span)).flatMap spanE), blk b3 (.cells #[(Value.int .i64 ((insN (xs.take (i_ + 1)) (⟨t, t + gap⟩ : Span)).start)), (Value.int .i64 ((insN (xs.take (i_ + 1)) (⟨t, t + gap⟩ : Span)).fin))] 65), blk b9 (.cells #[(Value.int .i64 t), (Value.int .i64 (t + gap))] 65), blk b5 (.cells #[(Value.int .i64 t)] 2)] [SlAt 2 v xs.length (xs.flatMap spanE)] _ := M
      replace M := M.sel (L' := [own 65 2 jv_ ((insJ (xs.take (i_ + 1)) (⟨t, t + gap⟩ : Span)).length) ((insJ (xs.take (i_ + 1)) (⟨t, t + gap⟩ : Span)).flatMap spanE), own 65 2 v29 ((insR (xs.take (i_ + 1)) (⟨t, t + gap⟩ : Span)).length) ((insR (xs.take (i_ + 1)) (⟨t, t + gap⟩ : Span)).flatMap spanE), blk b3 (.cells #[(Value.int .i64 ((insN (xs.take (i_ + 1)) (⟨t, t + gap⟩ : Span)).start)), (Value.int .i64 ((insN (xs.take (i_ + 1)) (⟨t, t + gap⟩ : Span)).fin))] 65), blk b9 (.cells #[(Value.int .i64 t), (Value.int .i64 (t + gap))] 65), blk b5 (.cells #[(Value.int .i64 t)] 2)]) [2, 3, 4, 5, 6] rfl (by decide)
      exact ⟨_, (by omega), i_ + 1, _, _, ⟨(by omega), rfl⟩, ⟨rfl, rfl, rfl, rfl, rfl, rfl, rfl, rfl, rfl, rfl⟩, M⟩
    ·
      refine W.skip ?_
      refine W.seq' ?_
      refine W.region rfl ?_
      refine WL.step (v := jv_) rfl (Step.move rfl) ?_
      refine WL.step (v := (Value.agg #[(Value.int .i64 x21.start), (Value.int .i64 x21.fin)])) rfl (Step.loadN Try.ag65 rfl (M.blk 0 rfl) (Nat.le_of_ble_eq_true rfl) rfl) ?_
      refine WL.new (obj := .cells #[(Value.int .i64 x21.start), (Value.int .i64 x21.fin)] 65) (fun b => .slice (some ⟨b, 0, none⟩) 1 1) M rfl (fun w => Step.make (by kernel_rfl)) (fun b32 w33 hb32 M => ?_)
      refine WL.does rfl (M.appendF (insJ (xs.take i_) (⟨t, t + gap⟩ : Span)) ([x21] : List Span) (sv := (Value.slice (some ⟨b32, 0, none⟩) 1 1)) 2 Try.un58 Try.el65 rfl (by decide) rfl rfl rfl (SlAt.of_blk (M.blk 0 rfl) rfl (by decide)) spanE_cel (by have := (show (insJ (xs.take i_) (⟨t, t + gap⟩ : Span)).length ≤ 1000000 ∧ (insR (xs.take i_) (⟨t, t + gap⟩ : Span)).length ≤ 1000000 by omega); simp only [maxLen, List.length_nil, List.length_cons, List.length_append]; omega) (by have := (show (insJ (xs.take i_) (⟨t, t + gap⟩ : Span)).length ≤ 1000000 ∧ (insR (xs.take i_) (⟨t, t + gap⟩ : Span)).length ≤ 1000000 by omega); (try simp only [List.length_nil, List.length_cons, List.length_append]); omega)) ?_
      rintro v34 w35 M
      replace M : Mem _ _ _ [blk b32 (.cells #[(Value.int .i64 x21.start), (Value.int .i64 x21.fin)] 65), blk b22 (.cells #[(Value.int .i64 x21.start), (Value.int .i64 x21.fin)] 65), own 65 2 v34 (((insJ (xs.take i_) (⟨t, t + gap⟩ : Span)) ++ ([x21] : List Span)).length) (((insJ (xs.take i_) (⟨t, t + gap⟩ : Span)) ++ ([x21] : List Span)).flatMap spanE), own 65 2 rv_ ((insR (xs.take i_) (⟨t, t + gap⟩ : Span)).length) ((insR (xs.take i_) (⟨t, t + gap⟩ : Span)).flatMap spanE), blk b3 (.cells #[(Value.int .i64 ((insN (xs.take i_) (⟨t, t + gap⟩ : Span)).start)), (Value.int .i64 ((insN (xs.take i_) (⟨t, t + gap⟩ : Span)).fin))] 65), blk b9 (.cells #[(Value.int .i64 t), (Value.int .i64 (t + gap))] 65), blk b5 (.cells #[(Value.int .i64 t)] 2)] [SlAt 2 v xs.length (xs.flatMap spanE)] _ := M
      have sl36 : IsSl v34 := SlAt.isSl (own_slAt (M.chunk 2 rfl).inv)
      refine WL.step (v := v34) rfl (Step.assign rfl) ?_
      refine WL.nil ?_
      refine W.region rfl ?_
      refine WL.step (v := (Value.pointer (some ⟨b3, 0, none⟩))) rfl (Step.pure (by kernel_rfl)) ?_
      refine WL.step (v := (Value.int .i64 ((insN (xs.take i_) (⟨t, t + gap⟩ : Span)).start))) rfl (Step.load1 Try.sc2 rfl ((M.cell 4 rfl 0).trans rfl)) ?_
      refine WL.step (v := (Value.pointer (some ⟨b22, 0, none⟩))) rfl (Step.pure (by kernel_rfl)) ?_
      refine WL.step (v := (Value.int .i64 x21.start)) rfl (Step.load1 Try.sc2 rfl ((M.cell 1 rfl 0).trans rfl)) ?_
      refine WL.step (v := (Value.int .i64 (min ((insN (xs.take i_) (⟨t, t + gap⟩ : Span)).start : Int) (x21.start : Int)))) rfl (Step.minI rfl rfl) ?_
      refine WL.step (v := (Value.pointer (some ⟨b3, 1, none⟩))) rfl (Step.pure (by kernel_rfl)) ?_
      refine WL.step (v := (Value.int .i64 ((insN (xs.take i_) (⟨t, t + gap⟩ : Span)).fin))) rfl (Step.load1 Try.sc2 rfl ((M.cell 4 rfl 1).trans rfl)) ?_
      refine WL.step (v := (Value.pointer (some ⟨b22, 1, none⟩))) rfl (Step.pure (by kernel_rfl)) ?_
      refine WL.step (v := (Value.int .i64 x21.fin)) rfl (Step.load1 Try.sc2 rfl ((M.cell 1 rfl 1).trans rfl)) ?_
      refine WL.step (v := (Value.int .i64 (max ((insN (xs.take i_) (⟨t, t + gap⟩ : Span)).fin : Int) (x21.fin : Int)))) rfl (Step.maxI rfl rfl) ?_
      refine WL.step (v := (Value.agg #[(Value.int .i64 (min ((insN (xs.take i_) (⟨t, t + gap⟩ : Span)).start : Int) (x21.start : Int))), (Value.int .i64 (max ((insN (xs.take i_) (⟨t, t + gap⟩ : Span)).fin : Int) (x21.fin : Int)))])) rfl (Step.pure (by kernel_rfl)) ?_
      refine WL.store (v := (Value.agg #[(Value.int .i64 (min ((insN (xs.take i_) (⟨t, t + gap⟩ : Span)).start : Int) (x21.start : Int))), (Value.int .i64 (max ((insN (xs.take i_) (⟨t, t + gap⟩ : Span)).fin : Int) (x21.fin : Int)))])) (cs := [(Value.int .i64 (min ((insN (xs.take i_) (⟨t, t + gap⟩ : Span)).start : Int) (x21.start : Int))), (Value.int .i64 (max ((insN (xs.take i_) (⟨t, t + gap⟩ : Span)).fin : Int) (x21.fin : Int)))]) (c' := #[(Value.int .i64 (min ((insN (xs.take i_) (⟨t, t + gap⟩ : Span)).start : Int) (x21.start : Int))), (Value.int .i64 (max ((insN (xs.take i_) (⟨t, t + gap⟩ : Span)).fin : Int) (x21.fin : Int)))]) M 4 rfl rfl Try.el65.sized rfl rfl rfl rfl (Nat.le_of_ble_eq_true rfl) (cel_cons rfl (cel_cons rfl cel_nil)) rfl rfl (fun w37 M => ?_)
      refine WL.nil ?_
      refine W.region rfl ?_
      refine WL.step (v := (Value.int .i64 (↑i_ + 1))) rfl (Step.add rfl rfl (wrap_i64 (by omega))) ?_
      refine WL.step (v := (Value.int .i64 (↑i_ + 1))) rfl (Step.move rfl) ?_
      refine WL.nil ?_
      replace M := M.rechunk 2 (c' := own 65 2 v34 ((insJ (xs.take (i_ + 1)) (⟨t, t + gap⟩ : Span)).length) ((insJ (xs.take (i_ + 1)) (⟨t, t + gap⟩ : Span)).flatMap spanE)) rfl (by rw [insJ_hit hx21 (by simpa using h26)])
      replace M : Mem _ _ _ [blk b32 (.cells #[(Value.int .i64 x21.start), (Value.int .i64 x21.fin)] 65), blk b22 (.cells #[(Value.int .i64 x21.start), (Value.int .i64 x21.fin)] 65), own 65 2 v34 ((insJ (xs.take (i_ + 1)) (⟨t, t + gap⟩ : Span)).length) ((insJ (xs.take (i_ + 1)) (⟨t, t + gap⟩ : Span)).flatMap spanE), own 65 2 rv_ ((insR (xs.take i_) (⟨t, t + gap⟩ : Span)).length) ((insR (xs.take i_) (⟨t, t + gap⟩ : Span)).flatMap spanE), blk b3 (.cells #[(Value.int .i64 (min ((insN (xs.take i_) (⟨t, t + gap⟩ : Span)).start : Int) (x21.start : Int))), (Value.int .i64 (max ((insN (xs.take i_) (⟨t, t + gap⟩ : Span)).fin : Int) (x21.fin : Int)))] 65), blk b9 (.cells #[(Value.int .i64 t), (Value.int .i64 (t + gap))] 65), blk b5 (.cells #[(Value.int .i64 t)] 2)] [SlAt 2 v xs.length (xs.flatMap spanE)] _ := M
      replace M := M.rechunk 3 (c' := own 65 2 rv_ ((insR (xs.take (i_ + 1)) (⟨t, t + gap⟩ : Span)).length) ((insR (xs.take (i_ + 1)) (⟨t, t + gap⟩ : Span)).flatMap spanE)) rfl (by rw [insR_hit hx21 (by simpa using h26)])
      replace M : Mem _ _ _ [blk b32 (.cells #[(Value.int .i64 x21.start), (Value.int .i64 x21.fin)] 65), blk b22 (.cells #[(Value.int .i64 x21.start), (Value.int .i64 x21.fin)] 65), own 65 2 v34 ((insJ (xs.take (i_ + 1)) (⟨t, t + gap⟩ : Span)).length) ((insJ (xs.take (i_ + 1)) (⟨t, t + gap⟩ : Span)).flatMap spanE), own 65 2 rv_ ((insR (xs.take (i_ + 1)) (⟨t, t + gap⟩ : Span)).length) ((insR (xs.take (i_ + 1)) (⟨t, t + gap⟩ : Span)).flatMap spanE), blk b3 (.cells #[(Value.int .i64 (min ((insN (xs.take i_) (⟨t, t + gap⟩ : Span)).start : Int) (x21.start : Int))), (Value.int .i64 (max ((insN (xs.take i_) (⟨t, t + gap⟩ : Span)).fin : Int) (x21.fin : Int)))] 65), blk b9 (.cells #[(Value.int .i64 t), (Value.int .i64 (t + gap))] 65), blk b5 (.cells #[(Value.int .i64 t)] 2)] [SlAt 2 v xs.length (xs.flatMap spanE)] _ := M
      replace M := M.rechunk 4 (c' := blk b3 (.cells #[(Value.int .i64 ((insN (xs.take (i_ + 1)) (⟨t, t + gap⟩ : Span)).start)), (Value.int .i64 ((insN (xs.take (i_ + 1)) (⟨t, t + gap⟩ : Span)).fin))] 65)) rfl (by rw [insN_hit hx21 (by simpa using h26)])
      replace M : Mem _ _ _ [blk b32 (.cells #[(Value.int .i64 x21.start), (Value.int .i64 x21.fin)] 65), blk b22 (.cells #[(Value.int .i64 x21.start), (Value.int .i64 x21.fin)] 65), own 65 2 v34 ((insJ (xs.take (i_ + 1)) (⟨t, t + gap⟩ : Span)).length) ((insJ (xs.take (i_ + 1)) (⟨t, t + gap⟩ : Span)).flatMap spanE), own 65 2 rv_ ((insR (xs.take (i_ + 1)) (⟨t, t + gap⟩ : Span)).length) ((insR (xs.take (i_ + 1)) (⟨t, t + gap⟩ : Span)).flatMap spanE), blk b3 (.cells #[(Value.int .i64 ((insN (xs.take (i_ + 1)) (⟨t, t + gap⟩ : Span)).start)), (Value.int .i64 ((insN (xs.take (i_ + 1)) (⟨t, t + gap⟩ : Span)).fin))] 65), blk b9 (.cells #[(Value.int .i64 t), (Value.int .i64 (t + gap))] 65), blk b5 (.cells #[(Value.int .i64 t)] 2)] [SlAt 2 v xs.length (xs.flatMap spanE)] _ := M
      replace M := M.sel (L' := [own 65 2 v34 ((insJ (xs.take (i_ + 1)) (⟨t, t + gap⟩ : Span)).length) ((insJ (xs.take (i_ + 1)) (⟨t, t + gap⟩ : Span)).flatMap spanE), own 65 2 rv_ ((insR (xs.take (i_ + 1)) (⟨t, t + gap⟩ : Span)).length) ((insR (xs.take (i_ + 1)) (⟨t, t + gap⟩ : Span)).flatMap spanE), blk b3 (.cells #[(Value.int .i64 ((insN (xs.take (i_ + 1)) (⟨t, t + gap⟩ : Span)).start)), (Value.int .i64 ((insN (xs.take (i_ + 1)) (⟨t, t + gap⟩ : Span)).fin))] 65), blk b9 (.cells #[(Value.int .i64 t), (Value.int .i64 (t + gap))] 65), blk b5 (.cells #[(Value.int .i64 t)] 2)]) [2, 3, 4, 5, 6] rfl (by decide)
      exact ⟨_, (by omega), i_ + 1, _, _, ⟨(by omega), rfl⟩, ⟨rfl, rfl, rfl, rfl, rfl, rfl, rfl, rfl, rfl, rfl⟩, M⟩
  ·
    have h18p := of_decide_eq_false h18
    have hall_ : xs.take i_ = xs := List.take_of_length_le (by omega)
    have hjl2_ := insJ_len xs (⟨t, t + gap⟩ : Span)
    have hrl2_ := insR_len xs (⟨t, t + gap⟩ : Span)
    have hlb_ := lowB_le (insR xs (⟨t, t + gap⟩ : Span)) (insN xs (⟨t, t + gap⟩ : Span)).start
    replace M := M.rechunk 0 (c' := own 65 2 jv_ ((insJ xs (⟨t, t + gap⟩ : Span)).length) ((insJ xs (⟨t, t + gap⟩ : Span)).flatMap spanE)) rfl (by rw [hall_])
    replace M : Mem _ _ _ [own 65 2 jv_ ((insJ xs (⟨t, t + gap⟩ : Span)).length) ((insJ xs (⟨t, t + gap⟩ : Span)).flatMap spanE), own 65 2 rv_ ((insR (xs.take i_) (⟨t, t + gap⟩ : Span)).length) ((insR (xs.take i_) (⟨t, t + gap⟩ : Span)).flatMap spanE), blk b3 (.cells #[(Value.int .i64 ((insN (xs.take i_) (⟨t, t + gap⟩ : Span)).start)), (Value.int .i64 ((insN (xs.take i_) (⟨t, t + gap⟩ : Span)).fin))] 65), blk b9 (.cells #[(Value.int .i64 t), (Value.int .i64 (t + gap))] 65), blk b5 (.cells #[(Value.int .i64 t)] 2)] [SlAt 2 v xs.length (xs.flatMap spanE)] _ := M
    replace M := M.rechunk 1 (c' := own 65 2 rv_ ((insR xs (⟨t, t + gap⟩ : Span)).length) ((insR xs (⟨t, t + gap⟩ : Span)).flatMap spanE)) rfl (by rw [hall_])
    replace M : Mem _ _ _ [own 65 2 jv_ ((insJ xs (⟨t, t + gap⟩ : Span)).length) ((insJ xs (⟨t, t + gap⟩ : Span)).flatMap spanE), own 65 2 rv_ ((insR xs (⟨t, t + gap⟩ : Span)).length) ((insR xs (⟨t, t + gap⟩ : Span)).flatMap spanE), blk b3 (.cells #[(Value.int .i64 ((insN (xs.take i_) (⟨t, t + gap⟩ : Span)).start)), (Value.int .i64 ((insN (xs.take i_) (⟨t, t + gap⟩ : Span)).fin))] 65), blk b9 (.cells #[(Value.int .i64 t), (Value.int .i64 (t + gap))] 65), blk b5 (.cells #[(Value.int .i64 t)] 2)] [SlAt 2 v xs.length (xs.flatMap spanE)] _ := M
    replace M := M.rechunk 2 (c' := blk b3 (.cells #[(Value.int .i64 ((insN xs (⟨t, t + gap⟩ : Span)).start)), (Value.int .i64 ((insN xs (⟨t, t + gap⟩ : Span)).fin))] 65)) rfl (by rw [hall_])
    replace M : Mem _ _ _ [own 65 2 jv_ ((insJ xs (⟨t, t + gap⟩ : Span)).length) ((insJ xs (⟨t, t + gap⟩ : Span)).flatMap spanE), own 65 2 rv_ ((insR xs (⟨t, t + gap⟩ : Span)).length) ((insR xs (⟨t, t + gap⟩ : Span)).flatMap spanE), blk b3 (.cells #[(Value.int .i64 ((insN xs (⟨t, t + gap⟩ : Span)).start)), (Value.int .i64 ((insN xs (⟨t, t + gap⟩ : Span)).fin))] 65), blk b9 (.cells #[(Value.int .i64 t), (Value.int .i64 (t + gap))] 65), blk b5 (.cells #[(Value.int .i64 t)] 2)] [SlAt 2 v xs.length (xs.flatMap spanE)] _ := M
    refine W.exit ?_
    refine thn_exit ?_
    refine thn_exit ?_
    refine inBlk_hit ?_
    refine W.seq' ?_
    refine W.region rfl ?_
    refine WL.step (v := rv_) rfl (Step.move rfl) ?_
    refine WL.step (v := (Value.agg #[(Value.int .i64 ((insN xs (⟨t, t + gap⟩ : Span)).start)), (Value.int .i64 ((insN xs (⟨t, t + gap⟩ : Span)).fin))])) rfl (Step.loadN Try.ag65 rfl (M.blk 2 rfl) (Nat.le_of_ble_eq_true rfl) rfl) ?_
    refine WL.callX rfl (bs_span rv_ (insR xs (⟨t, t + gap⟩ : Span)) (insN xs (⟨t, t + gap⟩ : Span)) (by first | omega | assumption | decide | (simp only [List.length_nil, List.length_cons, List.length_take, List.length_drop]; omega)) (insR_up (okI_right ho)) (M.enterW0 ⟨((M.wideC0 1 rfl).imp fun _ h => own_slAt h), trivial⟩)) (CallsF.func Try.en61 rfl) ?_
    rintro _ w39 ⟨f38, rfl, m⟩
    replace M := M.leaveW0 m
    clear m
    replace M : Mem _ _ _ [own 65 2 jv_ ((insJ xs (⟨t, t + gap⟩ : Span)).length) ((insJ xs (⟨t, t + gap⟩ : Span)).flatMap spanE), own 65 2 rv_ ((insR xs (⟨t, t + gap⟩ : Span)).length) ((insR xs (⟨t, t + gap⟩ : Span)).flatMap spanE), blk b3 (.cells #[(Value.int .i64 ((insN xs (⟨t, t + gap⟩ : Span)).start)), (Value.int .i64 ((insN xs (⟨t, t + gap⟩ : Span)).fin))] 65), blk b9 (.cells #[(Value.int .i64 t), (Value.int .i64 (t + gap))] 65), blk b5 (.cells #[(Value.int .i64 t)] 2)] [SlAt 2 v xs.length (xs.flatMap spanE)] _ := M
    refine WL.step (v := (Value.tuple #[(Value.int .i64 (↑(lowB (insR xs (⟨t, t + gap⟩ : Span)) (insN xs (⟨t, t + gap⟩ : Span)).start))), (Value.bool f38)])) rfl (Step.move rfl) ?_
    refine WL.step (v := (Value.int .i64 (↑(lowB (insR xs (⟨t, t + gap⟩ : Span)) (insN xs (⟨t, t + gap⟩ : Span)).start)))) rfl (Step.pure (by kernel_rfl)) ?_
    refine WL.step (v := (Value.bool f38)) rfl (Step.pure (by kernel_rfl)) ?_
    refine WL.step (v := (Value.int .i64 (↑(lowB (insR xs (⟨t, t + gap⟩ : Span)) (insN xs (⟨t, t + gap⟩ : Span)).start)))) rfl (Step.assign rfl) ?_
    refine WL.step (v := (Value.bool f38)) rfl (Step.assign rfl) ?_
    refine WL.nil ?_
    refine W.seq' ?_
    refine W.drawn2 M [0, 1, 2, 3, 4, 5, 6, 7] [8, 9, 10] [6, 8] [5] [own 65 2 jv_ ((insJ xs (⟨t, t + gap⟩ : Span)).length) ((insJ xs (⟨t, t + gap⟩ : Span)).flatMap spanE), blk b3 (.cells #[(Value.int .i64 ((insN xs (⟨t, t + gap⟩ : Span)).start)), (Value.int .i64 ((insN xs (⟨t, t + gap⟩ : Span)).fin))] 65), blk b9 (.cells #[(Value.int .i64 t), (Value.int .i64 (t + gap))] 65), blk b5 (.cells #[(Value.int .i64 t)] 2)] [SlAt 2 v xs.length (xs.flatMap spanE)] (List.Sublist.cons_cons _ (List.Sublist.cons _ (List.Sublist.cons_cons _ (List.Sublist.cons_cons _ (List.Sublist.cons_cons _ List.Sublist.slnil))))) (fun _ h => h) Try.mixed (by kernel_rfl) ?_
    refine TW.pure (v := jv_) rfl (by decide) (by decide) rfl (fun w => (Step.move rfl)) ?_
    refine TW.read (v := (Value.agg #[(Value.int .i64 ((insN xs (⟨t, t + gap⟩ : Span)).start)), (Value.int .i64 ((insN xs (⟨t, t + gap⟩ : Span)).fin))])) rfl (by decide) (by decide) rfl (fun A w M => (Step.loadN Try.ag65 rfl (M.blk 2 rfl) (Nat.le_of_ble_eq_true rfl) rfl)) ?_
    refine TW.pure (v := rv_) rfl (by decide) (by decide) rfl (fun w => (Step.move rfl)) ?_
    refine TW.pure (v := (Value.int .i64 (↑(lowB (insR xs (⟨t, t + gap⟩ : Span)) (insN xs (⟨t, t + gap⟩ : Span)).start)))) rfl (by decide) (by decide) rfl (fun w => (Step.move rfl)) ?_
    refine TW.read (v := (Value.agg #[(Value.int .i64 ((insN xs (⟨t, t + gap⟩ : Span)).start)), (Value.int .i64 ((insN xs (⟨t, t + gap⟩ : Span)).fin))])) rfl (by decide) (by decide) rfl (fun A w M => (Step.loadN Try.ag65 rfl (M.blk 2 rfl) (Nat.le_of_ble_eq_true rfl) rfl)) ?_
    refine TW.new (obj := .cells #[(Value.int .i64 ((insN xs (⟨t, t + gap⟩ : Span)).start)), (Value.int .i64 ((insN xs (⟨t, t + gap⟩ : Span)).fin))] 65) (fun b => .slice (some ⟨b, 0, none⟩) 1 1) rfl (by decide) (by decide) rfl (fun w => Step.make (by kernel_rfl)) (fun b54 => ?_)
    refine TW.callX (ι := Value) (fun jx v_ => v_ = jx) (fun jx => [blk b54 (.cells #[(Value.int .i64 ((insN xs (⟨t, t + gap⟩ : Span)).start)), (Value.int .i64 ((insN xs (⟨t, t + gap⟩ : Span)).fin))] 65), own 65 2 jx ((insL (insR xs (⟨t, t + gap⟩ : Span)) (lowB (insR xs (⟨t, t + gap⟩ : Span)) (insN xs (⟨t, t + gap⟩ : Span)).start) (insN xs (⟨t, t + gap⟩ : Span))).length) ((insL (insR xs (⟨t, t + gap⟩ : Span)) (lowB (insR xs (⟨t, t + gap⟩ : Span)) (insN xs (⟨t, t + gap⟩ : Span)).start) (insN xs (⟨t, t + gap⟩ : Span))).flatMap spanE), own 65 2 jv_ ((insJ xs (⟨t, t + gap⟩ : Span)).length) ((insJ xs (⟨t, t + gap⟩ : Span)).flatMap spanE), blk b3 (.cells #[(Value.int .i64 ((insN xs (⟨t, t + gap⟩ : Span)).start)), (Value.int .i64 ((insN xs (⟨t, t + gap⟩ : Span)).fin))] 65), blk b9 (.cells #[(Value.int .i64 t), (Value.int .i64 (t + gap))] 65), blk b5 (.cells #[(Value.int .i64 t)] 2)]) (fun jx => [SlAt 2 v xs.length (xs.flatMap spanE)]) rfl (by decide) rfl (fun jx => (List.Sublist.cons _ (List.Sublist.cons _ (List.Sublist.cons_cons _ (List.Sublist.cons_cons _ (List.Sublist.cons_cons _ (List.Sublist.cons_cons _ List.Sublist.slnil))))))) (fun jx r h => h) (fun A w M => Rets.mono (ins_span rv_ (insR xs (⟨t, t + gap⟩ : Span)) (lowB (insR xs (⟨t, t + gap⟩ : Span)) (insN xs (⟨t, t + gap⟩ : Span)).start) b54 (insN xs (⟨t, t + gap⟩ : Span)) (by omega) (by first | omega | assumption | decide | (simp only [List.length_nil, List.length_cons, List.length_take, List.length_drop]; omega)) (M.enterW (C := [own 65 2 rv_ ((insR xs (⟨t, t + gap⟩ : Span)).length) ((insR xs (⟨t, t + gap⟩ : Span)).flatMap spanE), blk b54 (.cells #[(Value.int .i64 ((insN xs (⟨t, t + gap⟩ : Span)).start)), (Value.int .i64 ((insN xs (⟨t, t + gap⟩ : Span)).fin))] 65)]) (D := [fl A, own 65 2 jv_ ((insJ xs (⟨t, t + gap⟩ : Span)).length) ((insJ xs (⟨t, t + gap⟩ : Span)).flatMap spanE), blk b3 (.cells #[(Value.int .i64 ((insN xs (⟨t, t + gap⟩ : Span)).start)), (Value.int .i64 ((insN xs (⟨t, t + gap⟩ : Span)).fin))] 65), blk b9 (.cells #[(Value.int .i64 t), (Value.int .i64 (t + gap))] 65), blk b5 (.cells #[(Value.int .i64 t)] 2)]) [3, 1, 0, 2, 4, 5, 6] rfl (by decide) trivial)) (fun v_ w_ ⟨v55, e_, m⟩ => ⟨v55, e_, (M.leaveW (C := [own 65 2 rv_ ((insR xs (⟨t, t + gap⟩ : Span)).length) ((insR xs (⟨t, t + gap⟩ : Span)).flatMap spanE), blk b54 (.cells #[(Value.int .i64 ((insN xs (⟨t, t + gap⟩ : Span)).start)), (Value.int .i64 ((insN xs (⟨t, t + gap⟩ : Span)).fin))] 65)]) (D := [fl A, own 65 2 jv_ ((insJ xs (⟨t, t + gap⟩ : Span)).length) ((insJ xs (⟨t, t + gap⟩ : Span)).flatMap spanE), blk b3 (.cells #[(Value.int .i64 ((insN xs (⟨t, t + gap⟩ : Span)).start)), (Value.int .i64 ((insN xs (⟨t, t + gap⟩ : Span)).fin))] 65), blk b9 (.cells #[(Value.int .i64 t), (Value.int .i64 (t + gap))] 65), blk b5 (.cells #[(Value.int .i64 t)] 2)]) [3, 1, 0, 2, 4, 5, 6] rfl (by decide) m).sel (L' := [fl A, blk b54 (.cells #[(Value.int .i64 ((insN xs (⟨t, t + gap⟩ : Span)).start)), (Value.int .i64 ((insN xs (⟨t, t + gap⟩ : Span)).fin))] 65), own 65 2 v55 ((insL (insR xs (⟨t, t + gap⟩ : Span)) (lowB (insR xs (⟨t, t + gap⟩ : Span)) (insN xs (⟨t, t + gap⟩ : Span)).start) (insN xs (⟨t, t + gap⟩ : Span))).length) ((insL (insR xs (⟨t, t + gap⟩ : Span)) (lowB (insR xs (⟨t, t + gap⟩ : Span)) (insN xs (⟨t, t + gap⟩ : Span)).start) (insN xs (⟨t, t + gap⟩ : Span))).flatMap spanE), own 65 2 jv_ ((insJ xs (⟨t, t + gap⟩ : Span)).length) ((insJ xs (⟨t, t + gap⟩ : Span)).flatMap spanE), blk b3 (.cells #[(Value.int .i64 ((insN xs (⟨t, t + gap⟩ : Span)).start)), (Value.int .i64 ((insN xs (⟨t, t + gap⟩ : Span)).fin))] 65), blk b9 (.cells #[(Value.int .i64 t), (Value.int .i64 (t + gap))] 65), blk b5 (.cells #[(Value.int .i64 t)] 2)]) [2, 0, 1, 3, 4, 5, 6] rfl (by decide), fun b hb => M.keptW (C := [own 65 2 rv_ ((insR xs (⟨t, t + gap⟩ : Span)).length) ((insR xs (⟨t, t + gap⟩ : Span)).flatMap spanE), blk b54 (.cells #[(Value.int .i64 ((insN xs (⟨t, t + gap⟩ : Span)).start)), (Value.int .i64 ((insN xs (⟨t, t + gap⟩ : Span)).fin))] 65)]) (D := [fl A, own 65 2 jv_ ((insJ xs (⟨t, t + gap⟩ : Span)).length) ((insJ xs (⟨t, t + gap⟩ : Span)).flatMap spanE), blk b3 (.cells #[(Value.int .i64 ((insN xs (⟨t, t + gap⟩ : Span)).start)), (Value.int .i64 ((insN xs (⟨t, t + gap⟩ : Span)).fin))] 65), blk b9 (.cells #[(Value.int .i64 t), (Value.int .i64 (t + gap))] 65), blk b5 (.cells #[(Value.int .i64 t)] 2)]) [3, 1, 0, 2, 4, 5, 6] rfl (by decide) m (fl A) (List.mem_cons_self ..) b hb⟩)) (fun w => CallsF.func Try.en64 rfl) (fun v55 v hp hin => ?_)
    replace hp := hp.symm; subst hp
    obtain ⟨_, _, hin⟩ := hin
    have sl56 : IsSl v55 := SlAt.isSl (own_slAt (Mem.chunk hin 2 rfl).inv)
    have hle57 := SlAt.le' (own_slAt (Mem.chunk hin 2 rfl).inv)
    clear hin
    change TW _ _ _ _ _ _ _ _ (MemA _ _ _ [blk b54 (.cells #[(Value.int .i64 ((insN xs (⟨t, t + gap⟩ : Span)).start)), (Value.int .i64 ((insN xs (⟨t, t + gap⟩ : Span)).fin))] 65), own 65 2 v55 ((insL (insR xs (⟨t, t + gap⟩ : Span)) (lowB (insR xs (⟨t, t + gap⟩ : Span)) (insN xs (⟨t, t + gap⟩ : Span)).start) (insN xs (⟨t, t + gap⟩ : Span))).length) ((insL (insR xs (⟨t, t + gap⟩ : Span)) (lowB (insR xs (⟨t, t + gap⟩ : Span)) (insN xs (⟨t, t + gap⟩ : Span)).start) (insN xs (⟨t, t + gap⟩ : Span))).flatMap spanE), own 65 2 jv_ ((insJ xs (⟨t, t + gap⟩ : Span)).length) ((insJ xs (⟨t, t + gap⟩ : Span)).flatMap spanE), blk b3 (.cells #[(Value.int .i64 ((insN xs (⟨t, t + gap⟩ : Span)).start)), (Value.int .i64 ((insN xs (⟨t, t + gap⟩ : Span)).fin))] 65), blk b9 (.cells #[(Value.int .i64 t), (Value.int .i64 (t + gap))] 65), blk b5 (.cells #[(Value.int .i64 t)] 2)] [SlAt 2 v xs.length (xs.flatMap spanE)])
    refine TW.pure (v := jv_) rfl (by decide) (by decide) rfl (fun w => (Step.assign rfl)) ?_
    refine TW.turn [blk b54 (.cells #[(Value.int .i64 ((insN xs (⟨t, t + gap⟩ : Span)).start)), (Value.int .i64 ((insN xs (⟨t, t + gap⟩ : Span)).fin))] 65), own 65 2 v55 ((insL (insR xs (⟨t, t + gap⟩ : Span)) (lowB (insR xs (⟨t, t + gap⟩ : Span)) (insN xs (⟨t, t + gap⟩ : Span)).start) (insN xs (⟨t, t + gap⟩ : Span))).length) ((insL (insR xs (⟨t, t + gap⟩ : Span)) (lowB (insR xs (⟨t, t + gap⟩ : Span)) (insN xs (⟨t, t + gap⟩ : Span)).start) (insN xs (⟨t, t + gap⟩ : Span))).flatMap spanE), own 65 2 jv_ ((insJ xs (⟨t, t + gap⟩ : Span)).length) ((insJ xs (⟨t, t + gap⟩ : Span)).flatMap spanE), blk b9 (.cells #[(Value.int .i64 t), (Value.int .i64 (t + gap))] 65), blk b5 (.cells #[(Value.int .i64 t)] 2)] [SlAt 2 v xs.length (xs.flatMap spanE)] (List.Sublist.cons_cons _ (List.Sublist.cons_cons _ (List.Sublist.cons_cons _ (List.Sublist.cons _ (List.Sublist.cons_cons _ (List.Sublist.cons_cons _ List.Sublist.slnil)))))) (fun _ h => h) ?_
    refine TW.store (v := (Value.agg #[(Value.int .i64 ((insN xs (⟨t, t + gap⟩ : Span)).start)), (Value.int .i64 ((insN xs (⟨t, t + gap⟩ : Span)).fin))])) (cs := [(Value.int .i64 ((insN xs (⟨t, t + gap⟩ : Span)).start)), (Value.int .i64 ((insN xs (⟨t, t + gap⟩ : Span)).fin))]) (c' := #[(Value.int .i64 ((insN xs (⟨t, t + gap⟩ : Span)).start)), (Value.int .i64 ((insN xs (⟨t, t + gap⟩ : Span)).fin))]) 3 rfl rfl (by decide) rfl Try.el65.sized rfl rfl rfl rfl (Nat.le_of_ble_eq_true rfl) (cel_cons rfl (cel_cons rfl cel_nil)) rfl rfl (List.Sublist.cons_cons _ (List.Sublist.cons_cons _ (List.Sublist.cons_cons _ (List.Sublist.cons _ (List.Sublist.cons_cons _ (List.Sublist.cons_cons _ List.Sublist.slnil)))))) (fun r h => h) ?_
    refine TW.pure (v := v55) rfl (by decide) (by decide) rfl (fun w => (Step.assign rfl)) ?_
    refine TW.pure (v := (Value.int .i64 0)) rfl (by decide) (by decide) rfl (fun w => (Step.assign rfl)) ?_
    refine TW.done (fun w59 M => ?_)
    refine W.ret ?_
    refine ⟨.inl rfl, (Value.tuple #[jv_, (Value.agg #[(Value.int .i64 ((insN xs (⟨t, t + gap⟩ : Span)).start)), (Value.int .i64 ((insN xs (⟨t, t + gap⟩ : Span)).fin))]), v55, (Value.int .i64 0)]), ?_, ?_⟩
    · exact ⟨rfl, (Res.r4 (show RV _ _ _ (.tmp 6) jv_ from by exact rfl) (RV.cellN Try.ag65 rfl (M.blk 3 rfl) rfl) (show RV _ _ _ (.tmp 8) v55 from by exact rfl) (show RV _ _ _ (.tmp 9) (Value.int .i64 0) from by exact rfl))⟩
    have e60 : insA xs (⟨t, t + gap⟩ : Span) = insL (insR xs (⟨t, t + gap⟩ : Span)) (lowB (insR xs (⟨t, t + gap⟩ : Span)) (insN xs (⟨t, t + gap⟩ : Span)).start) (insN xs (⟨t, t + gap⟩ : Span)) := by
      rfl
    replace M := M.rechunk 1 (c' := own 65 2 v55 ((insA xs (⟨t, t + gap⟩ : Span)).length) ((insA xs (⟨t, t + gap⟩ : Span)).flatMap spanE)) rfl (congrArg (fun z => own 65 2 v55 z.length (z.flatMap spanE)) e60.symm)
    replace M : Mem _ _ _ [blk b54 (.cells #[(Value.int .i64 ((insN xs (⟨t, t + gap⟩ : Span)).start)), (Value.int .i64 ((insN xs (⟨t, t + gap⟩ : Span)).fin))] 65), own 65 2 v55 ((insA xs (⟨t, t + gap⟩ : Span)).length) ((insA xs (⟨t, t + gap⟩ : Span)).flatMap spanE), own 65 2 jv_ ((insJ xs (⟨t, t + gap⟩ : Span)).length) ((insJ xs (⟨t, t + gap⟩ : Span)).flatMap spanE), blk b3 (.cells #[(Value.int .i64 ((insN xs (⟨t, t + gap⟩ : Span)).start)), (Value.int .i64 ((insN xs (⟨t, t + gap⟩ : Span)).fin))] 65), blk b9 (.cells #[(Value.int .i64 t), (Value.int .i64 (t + gap))] 65), blk b5 (.cells #[(Value.int .i64 t)] 2)] [SlAt 2 v xs.length (xs.flatMap spanE)] _ := M
    refine ⟨jv_, v55, ?_, M.close [2, 1] rfl (by decide) trivial⟩
    rfl

theorem ses_insno {G : Nat → Prop} {w : World} (gap : Int) (t : Int) (v : Value) (xs : List Span)  (hin : ∀ s, s ∈ xs → in64 s.start ∧ in64 s.fin) (ho : okI gap t xs = false) (M : Mem G (fun _ => False) w [] [SlAt 2 v xs.length (xs.flatMap spanE)] w) : Rets Try.prog 32 #[(Value.int .i64 gap), (Value.int .i64 t), v] w fun r w' => r = (Value.tuple #[(Value.slice none 0 0), (Value.agg #[(Value.int .i64 0), (Value.int .i64 0)]), (Value.slice none 0 0), (Value.int .i64 2)]) ∧ Mem G (fun _ => False) w [] [] w' := by
  refine Rets.enter 76 _ Try.func32 rfl Try.ntmps32 Try.results32 (by simp) ?_
  have hle1 := SlAt.le' (M.rep 0 rfl)
  have sl2 : IsSl v := SlAt.isSl (Mem.rep M 0 rfl)
  refine W.seq' ?_
  refine W.region rfl ?_
  refine WL.step (v := (Value.slice none 0 0)) rfl (Step.assign rfl) ?_
  refine WL.alloc (c := #[(Value.int .i64 0), (Value.int .i64 0)]) M rfl Try.el65.zero rfl (fun b3 w4 hb3 M => ?_)
  refine WL.step (v := (Value.slice none 0 0)) rfl (Step.assign rfl) ?_
  refine WL.step (v := (Value.int .i64 0)) rfl (Step.assign rfl) ?_
  refine WL.nil ?_
  refine W.seq' ?_
  refine W.seq' ?_
  refine W.region rfl ?_
  refine WL.step (v := (Value.int .i64 gap)) rfl (Step.move rfl) ?_
  refine WL.step (v := (Value.int .i64 t)) rfl (Step.move rfl) ?_
  refine WL.new (obj := .cells #[(Value.int .i64 t)] 2) (fun b => .slice (some ⟨b, 0, none⟩) 1 1) M rfl (fun w => Step.make (by kernel_rfl)) (fun b5 w6 hb5 M => ?_)
  refine WL.callX rfl (ses_may gap (Value.slice (some ⟨b5, 0, none⟩) 1 1) ([t] : List Int) (M.enterW0 ⟨((M.wideC0 0 rfl).imp fun _ h => SlAt.of_blk (n := 1) (size := 1) h rfl (by decide)), trivial⟩)) (CallsF.func Try.en60 rfl) ?_
  rintro _ w7 ⟨rfl, m⟩
  replace M := M.leaveW0 m
  clear m
  replace M : Mem _ _ _ [blk b5 (.cells #[(Value.int .i64 t)] 2), blk b3 (.cells #[(Value.int .i64 0), (Value.int .i64 0)] 65)] [SlAt 2 v xs.length (xs.flatMap spanE)] _ := M
  refine WL.step (v := (Value.bool (!(mayB gap ([t] : List Int))))) rfl (Step.pure (by kernel_rfl)) ?_
  refine WL.step (v := (Value.bool (!(mayB gap ([t] : List Int))))) rfl (Step.move rfl) ?_
  rcases Bool.eq_false_or_eq_true (!(mayB gap ([t] : List Int))) with h8 | h8
  ·
    rw [h8]
    refine WL.pass rfl ?_
    refine WL.pass rfl ?_
    refine WL.pass rfl ?_
    refine WL.pass rfl ?_
    refine WL.step (v := (Value.bool true)) rfl (Step.pick (t := true) rfl rfl) ?_
    refine WL.nil ?_
    refine W.cond (t := true) rfl (fun _ => ?_) (fun h => by cases h)
    refine W.seq' ?_
    refine W.region rfl ?_
    refine WL.step (v := (Value.agg #[(Value.int .i64 0), (Value.int .i64 0)])) rfl (Step.pure (by kernel_rfl)) ?_
    refine WL.step (v := (Value.slice none 0 0)) rfl (Step.assign rfl) ?_
    refine WL.store (v := (Value.agg #[(Value.int .i64 0), (Value.int .i64 0)])) (cs := [(Value.int .i64 0), (Value.int .i64 0)]) (c' := #[(Value.int .i64 0), (Value.int .i64 0)]) M 1 rfl rfl Try.el65.sized rfl rfl rfl rfl (Nat.le_of_ble_eq_true rfl) (cel_cons rfl (cel_cons rfl cel_nil)) rfl rfl (fun w9 M => ?_)
    refine WL.step (v := (Value.slice none 0 0)) rfl (Step.assign rfl) ?_
    refine WL.step (v := (Value.int .i64 2)) rfl (Step.assign rfl) ?_
    refine WL.nil ?_
    refine W.ret ?_
    refine ⟨.inl rfl, (Value.tuple #[(Value.slice none 0 0), (Value.agg #[(Value.int .i64 0), (Value.int .i64 0)]), (Value.slice none 0 0), (Value.int .i64 2)]), ?_, ?_⟩
    · exact ⟨rfl, (Res.r4 (show RV _ _ _ (.tmp 6) (Value.slice none 0 0) from by exact rfl) (RV.cellN Try.ag65 rfl (M.blk 1 rfl) rfl) (show RV _ _ _ (.tmp 8) (Value.slice none 0 0) from by exact rfl) (show RV _ _ _ (.tmp 9) (Value.int .i64 2) from by exact rfl))⟩
    refine ⟨?_, M.close [] rfl (by decide) trivial⟩
    rfl
  ·
    obtain ⟨_, _, _, _⟩ := mayB_one (show mayB gap [t] = true by simpa using h8)
    rw [h8]
    refine WL.step (v := (Value.int .i64 gap)) rfl (Step.move rfl) ?_
    refine WL.step (v := v) rfl (Step.move rfl) ?_
    refine WL.callX rfl (ses_right gap v xs (by first | assumption | decide) (by first | assumption | (unfold in64; omega)) (M.enterW0 ⟨(M.wideR0 0 rfl), trivial⟩)) (CallsF.func Try.en40 rfl) ?_
    rintro _ w10 ⟨rfl, m⟩
    replace M := M.leaveW0 m
    clear m
    replace M : Mem _ _ _ [blk b5 (.cells #[(Value.int .i64 t)] 2), blk b3 (.cells #[(Value.int .i64 0), (Value.int .i64 0)] 65)] [SlAt 2 v xs.length (xs.flatMap spanE)] _ := M
    refine WL.step (v := (Value.bool (!(rightB gap xs)))) rfl (Step.pure (by kernel_rfl)) ?_
    refine WL.step (v := (Value.bool (!(rightB gap xs)))) rfl (Step.pick (t := false) rfl rfl) ?_
    refine WL.nil ?_
    refine W.cond (t := !(rightB gap xs)) rfl (fun h11 => ?_) (fun h11 => ?_)
    ·
      refine W.seq' ?_
      refine W.region rfl ?_
      refine WL.step (v := (Value.agg #[(Value.int .i64 0), (Value.int .i64 0)])) rfl (Step.pure (by kernel_rfl)) ?_
      refine WL.step (v := (Value.slice none 0 0)) rfl (Step.assign rfl) ?_
      refine WL.store (v := (Value.agg #[(Value.int .i64 0), (Value.int .i64 0)])) (cs := [(Value.int .i64 0), (Value.int .i64 0)]) (c' := #[(Value.int .i64 0), (Value.int .i64 0)]) M 1 rfl rfl Try.el65.sized rfl rfl rfl rfl (Nat.le_of_ble_eq_true rfl) (cel_cons rfl (cel_cons rfl cel_nil)) rfl rfl (fun w12 M => ?_)
      refine WL.step (v := (Value.slice none 0 0)) rfl (Step.assign rfl) ?_
      refine WL.step (v := (Value.int .i64 2)) rfl (Step.assign rfl) ?_
      refine WL.nil ?_
      refine W.ret ?_
      refine ⟨.inl rfl, (Value.tuple #[(Value.slice none 0 0), (Value.agg #[(Value.int .i64 0), (Value.int .i64 0)]), (Value.slice none 0 0), (Value.int .i64 2)]), ?_, ?_⟩
      · exact ⟨rfl, (Res.r4 (show RV _ _ _ (.tmp 6) (Value.slice none 0 0) from by exact rfl) (RV.cellN Try.ag65 rfl (M.blk 1 rfl) rfl) (show RV _ _ _ (.tmp 8) (Value.slice none 0 0) from by exact rfl) (show RV _ _ _ (.tmp 9) (Value.int .i64 2) from by exact rfl))⟩
      refine ⟨?_, M.close [] rfl (by decide) trivial⟩
      rfl
    ·
      exact (okI_no ho (by simpa using h11) (by simpa using h8)).elim
end Go.Proofs
