/- Walks. -/
import Derived.Test.YtlehkjkpgmkbiaaTrC8
set_option maxRecDepth 100000
set_option linter.all false
namespace Go.Proofs
open Go Tp
theorem Try.en31 : Enters Try.prog 31 := fun _ _ => by kernel_rfl
theorem Try.en34 : Enters Try.prog 34 := fun _ _ => by kernel_rfl

theorem ref_drop {G : Nat → Prop} {w : World} (v : Value) (l : List Ver) (e : Int) (f : Int)  (hc : chainP l) (hb : l.length ≤ 1000000) (M : Mem G (fun _ => False) w [] [SlAt 6 v l.length (l.flatMap verE)] w) : Rets Try.prog 34 #[v, (Value.int .u64 e), (Value.int .u64 f)] w fun r w' => ∃ (v' : Value), r = (Value.tuple #[v', (Value.bool ((dropV l e f).2))]) ∧ Mem G (fun _ => False) w [] [SlAt 6 v' ((dropV l e f).1).length (((dropV l e f).1).flatMap verE)] w' := by
  refine Rets.enter 37 _ Try.func34 rfl Try.ntmps34 Try.results34 (by simp) ?_
  have hle1 := SlAt.le' (M.rep 0 rfl)
  have sl2 : IsSl v := SlAt.isSl (Mem.rep M 0 rfl)
  refine W.seq' ?_
  refine W.region rfl ?_
  refine WL.step (v := (Value.slice none 0 0)) rfl (Step.assign rfl) ?_
  refine WL.step (v := (Value.bool false)) rfl (Step.assign rfl) ?_
  refine WL.nil ?_
  refine W.seq' ?_
  refine W.seq' ?_
  refine W.region rfl ?_
  refine WL.step (v := v) rfl (Step.move rfl) ?_
  refine WL.step (v := (Value.int .u64 e)) rfl (Step.move rfl) ?_
  refine WL.step (v := (Value.int .u64 f)) rfl (Step.move rfl) ?_
  refine WL.callX rfl (ref_garb v l e f (by assumption) (M.enterW0 ⟨(M.wideR0 0 rfl), trivial⟩)) (CallsF.func Try.en31 rfl) ?_
  rintro _ w3 ⟨rfl, m⟩
  replace M := M.leaveW0 m
  clear m
  replace M : Mem _ _ _ [] [SlAt 6 v l.length (l.flatMap verE)] _ := M
  refine WL.step (v := (Value.bool (!(garb l e f)))) rfl (Step.pure (by kernel_rfl)) ?_
  refine WL.nil ?_
  refine W.cond (t := !(garb l e f)) rfl (fun h4 => ?_) (fun h4 => ?_)
  ·
    refine W.seq' ?_
    refine W.region rfl ?_
    refine WL.step (v := v) rfl (Step.move rfl) ?_
    refine WL.step (v := v) rfl (Step.assign rfl) ?_
    refine WL.step (v := (Value.bool false)) rfl (Step.assign rfl) ?_
    refine WL.nil ?_
    refine W.ret ?_
    refine ⟨.inl rfl, (Value.tuple #[v, (Value.bool false)]), ?_, ?_⟩
    · exact ⟨rfl, (Res.r2 (show RV _ _ _ (.tmp 6) v from by exact rfl) (show RV _ _ _ (.tmp 7) (Value.bool false) from by exact rfl))⟩
    have e5 : (dropV l e f).1 = l := by
      have hg_ : garb l e f = false := by simpa using h4
      try simp [dropV, hg_]
    have hf6 := M.shr' 0 rfl
    rw [← e5] at hf6
    refine ⟨v, ?_, M.close [] rfl (by decide) ⟨hf6, trivial⟩⟩
    have hg_ : garb l e f = false := by simpa using h4
    try simp [dropV, hg_]
  ·
    refine W.skip ?_
    refine W.seq' ?_
    refine W.region rfl ?_
    refine WL.step (v := (Value.slice none 0 0)) rfl (Step.assign rfl) ?_
    refine WL.nil ?_
    refine W.seq' ?_
    refine W.seq' ?_
    refine W.region rfl ?_
    refine WL.step (v := (Value.int .i64 0)) rfl (Step.assign rfl) ?_
    refine WL.nil ?_
    refine W.block ?_
    replace M := M.ownNil 51 6
    replace M := M.rechunk 0 (c' := own 51 6 (Value.slice none 0 0) (((l.take 0).filter fun (v : Ver) => !(v.epoch == e)).length) (((l.take 0).filter fun (v : Ver) => !(v.epoch == e)).flatMap verE)) rfl rfl
    replace M : Mem _ _ _ [own 51 6 (Value.slice none 0 0) (((l.take 0).filter fun (v : Ver) => !(v.epoch == e)).length) (((l.take 0).filter fun (v : Ver) => !(v.epoch == e)).flatMap verE)] [SlAt 6 v l.length (l.flatMap verE)] _ := M
    refine W.loop (fun kk ρ w' => ∃ (i_ : Nat) (acc_ : Value), ((i_ ≤ l.length) ∧ kk = l.length - i_) ∧ ρ.has [(0, v), (1, (Value.int .u64 e)), (6, (Value.slice none 0 0)), (7, (Value.bool false)), (8, acc_), (9, (Value.int .i64 ↑i_))] ∧ Mem G (fun _ => False) w [own 51 6 acc_ (((l.take i_).filter fun (v : Ver) => !(v.epoch == e)).length) (((l.take i_).filter fun (v : Ver) => !(v.epoch == e)).flatMap verE)] [SlAt 6 v l.length (l.flatMap verE)]  w') _ ⟨0, _, ⟨(Nat.zero_le _), rfl⟩, ⟨rfl, rfl, rfl, rfl, rfl, rfl, rfl, rfl⟩, M⟩ ?_
    rintro _ ρ8 w7 ⟨i_, acc_, ⟨hi9, rfl⟩, hρ, M⟩
    obtain ⟨ρ8, rfl⟩ := hρ.know
    clear hρ
    have sl10 : IsSl acc_ := SlAt.isSl (own_slAt (M.chunk 0 rfl).inv)
    have hacl : ((l.take i_).filter fun (v : Ver) => !(v.epoch == e)).length ≤ 1000000 := Nat.le_trans (List.length_filter_le _ _) (by rw [List.length_take]; omega)
    refine W.seq' ?_
    refine W.seq' ?_
    refine W.region rfl ?_
    refine WL.step (v := (Value.int .i64 ↑i_)) rfl (Step.move rfl) ?_
    refine WL.step (v := v) rfl (Step.move rfl) ?_
    refine WL.step (v := (Value.int .i64 ↑l.length)) rfl (Step.lenSl Try.un41 rfl (M.rep 0 rfl)) ?_
    refine WL.step (v := (Value.bool (decide ((↑i_ : Int) < (↑l.length : Int))))) rfl (Step.pure (by kernel_rfl)) ?_
    refine WL.nil ?_
    refine W.cond (t := decide ((↑i_ : Int) < (↑l.length : Int))) rfl (fun h11 => ?_) (fun h11 => ?_)
    ·
      have h11p := of_decide_eq_true h11
      refine W.skip ?_
      refine W.seq' ?_
      refine W.block ?_
      refine W.seq' ?_
      refine W.region rfl ?_
      refine WL.step (v := v) rfl (Step.move rfl) ?_
      refine WL.step (v := (Value.int .i64 ↑i_)) rfl (Step.move rfl) ?_
      obtain ⟨cap13, hb12⟩ := SlAt.base (M.rep 0 rfl) (by omega)
      obtain ⟨x14, hx14⟩ := elem_of_lt (xs := l) (i := i_) (by omega)
      refine WL.step (v := (Value.pointer (some ⟨(sBlk v), sOff v + i_ * 6, none⟩))) rfl (Step.indexAddr (i := i_) (Try.un41).run Try.el51.sized rfl rfl (by omega) hb12 (by omega)) ?_
      refine WL.step (v := (Value.pointer (some ⟨(sBlk v), sOff v + i_ * 6, none⟩))) rfl (Step.pure (by kernel_rfl)) ?_
      refine WL.step (v := (Value.int .u64 x14.epoch)) rfl (Step.loadE (k := 0) Try.sc23 (flat_ec (M.rep 0 rfl) hx14 verE_len) (by decide) rfl rfl) ?_
      refine WL.step (v := (Value.int .u64 e)) rfl (Step.move rfl) ?_
      refine WL.step (v := (Value.bool ((x14.epoch : Int) != (e : Int)))) rfl (Step.pure (by kernel_rfl)) ?_
      refine WL.nil ?_
      refine W.cond (t := (x14.epoch : Int) != (e : Int)) rfl (fun h15 => ?_) (fun h15 => ?_)
      ·
        have h15p : ¬ (x14.epoch : Int) = (e : Int) := by simpa using h15
        refine W.region rfl ?_
        refine WL.step (v := acc_) rfl (Step.move rfl) ?_
        refine WL.step (v := v) rfl (Step.move rfl) ?_
        refine WL.step (v := (Value.int .i64 ↑i_)) rfl (Step.move rfl) ?_
        refine WL.step (v := (Value.pointer (some ⟨(sBlk v), sOff v + i_ * 6, none⟩))) rfl (Step.indexAddr (i := i_) (Try.un41).run Try.el51.sized rfl rfl (by omega) hb12 (by omega)) ?_
        refine WL.step (v := (Value.agg #[(Value.int .u64 x14.epoch), (Value.bool x14.dead), (Value.int .i64 x14.agg.count), (Value.int .i64 x14.agg.sum), (Value.int .i64 x14.agg.min), (Value.int .i64 x14.agg.max)])) rfl (Step.loadEN (k := 0) (cs' := [(Value.int .u64 x14.epoch), (Value.bool x14.dead), (Value.int .i64 x14.agg.count), (Value.int .i64 x14.agg.sum), (Value.int .i64 x14.agg.min), (Value.int .i64 x14.agg.max)]) Try.ag51 (flat_ec (M.rep 0 rfl) hx14 verE_len) (by decide) rfl rfl rfl) ?_
        refine WL.new (obj := .cells #[(Value.int .u64 x14.epoch), (Value.bool x14.dead), (Value.int .i64 x14.agg.count), (Value.int .i64 x14.agg.sum), (Value.int .i64 x14.agg.min), (Value.int .i64 x14.agg.max)] 51) (fun b => .slice (some ⟨b, 0, none⟩) 1 1) M rfl (fun w => Step.make (by kernel_rfl)) (fun b16 w17 hb16 M => ?_)
        refine WL.does rfl (M.appendF ((l.take i_).filter fun (v : Ver) => !(v.epoch == e)) ([x14] : List Ver) (sv := (Value.slice (some ⟨b16, 0, none⟩) 1 1)) 1 Try.un41 Try.el51 rfl (by decide) rfl rfl rfl (SlAt.of_blk (M.blk 0 rfl) rfl (by decide)) verE_cel (by have := hacl; simp only [maxLen, List.length_nil, List.length_cons, List.length_append]; omega) (by have := hacl; (try simp only [List.length_nil, List.length_cons, List.length_append]); omega)) ?_
        rintro v18 w19 M
        replace M : Mem _ _ _ [blk b16 (.cells #[(Value.int .u64 x14.epoch), (Value.bool x14.dead), (Value.int .i64 x14.agg.count), (Value.int .i64 x14.agg.sum), (Value.int .i64 x14.agg.min), (Value.int .i64 x14.agg.max)] 51), own 51 6 v18 ((((l.take i_).filter fun (v : Ver) => !(v.epoch == e)) ++ ([x14] : List Ver)).length) ((((l.take i_).filter fun (v : Ver) => !(v.epoch == e)) ++ ([x14] : List Ver)).flatMap verE)] [SlAt 6 v l.length (l.flatMap verE)] _ := M
        have sl20 : IsSl v18 := SlAt.isSl (own_slAt (M.chunk 1 rfl).inv)
        refine WL.step (v := v18) rfl (Step.assign rfl) ?_
        refine WL.nil ?_
        refine W.region rfl ?_
        refine WL.step (v := (Value.int .i64 ↑i_)) rfl (Step.move rfl) ?_
        refine WL.step (v := (Value.int .i64 (↑i_ + 1))) rfl (Step.add rfl rfl (wrap_i64 (by omega))) ?_
        refine WL.step (v := (Value.int .i64 (↑i_ + 1))) rfl (Step.assign rfl) ?_
        refine WL.nil ?_
        replace M := M.rechunk 1 (c' := own 51 6 v18 (((l.take (i_ + 1)).filter fun (v : Ver) => !(v.epoch == e)).length) (((l.take (i_ + 1)).filter fun (v : Ver) => !(v.epoch == e)).flatMap verE)) rfl (by rw [filter_snocY hx14 (by simpa using h15)])
        replace M : Mem _ _ _ [blk b16 (.cells #[(Value.int .u64 x14.epoch), (Value.bool x14.dead), (Value.int .i64 x14.agg.count), (Value.int .i64 x14.agg.sum), (Value.int .i64 x14.agg.min), (Value.int .i64 x14.agg.max)] 51), own 51 6 v18 (((l.take (i_ + 1)).filter fun (v : Ver) => !(v.epoch == e)).length) (((l.take (i_ + 1)).filter fun (v : Ver) => !(v.epoch == e)).flatMap verE)] [SlAt 6 v l.length (l.flatMap verE)] _ := M
        replace M := M.sel (L' := [own 51 6 v18 (((l.take (i_ + 1)).filter fun (v : Ver) => !(v.epoch == e)).length) (((l.take (i_ + 1)).filter fun (v : Ver) => !(v.epoch == e)).flatMap verE)]) [1] rfl (by decide)
        exact ⟨_, (by omega), i_ + 1, v18, ⟨(by omega), rfl⟩, ⟨rfl, rfl, rfl, rfl, rfl, rfl, rfl, rfl⟩, M⟩
      ·
        have h15p : (x14.epoch : Int) = (e : Int) := by simpa using h15
        refine W.skip ?_
        refine W.region rfl ?_
        refine WL.step (v := (Value.int .i64 ↑i_)) rfl (Step.move rfl) ?_
        refine WL.step (v := (Value.int .i64 (↑i_ + 1))) rfl (Step.add rfl rfl (wrap_i64 (by omega))) ?_
        refine WL.step (v := (Value.int .i64 (↑i_ + 1))) rfl (Step.assign rfl) ?_
        refine WL.nil ?_
        replace M := M.rechunk 0 (c' := own 51 6 acc_ (((l.take (i_ + 1)).filter fun (v : Ver) => !(v.epoch == e)).length) (((l.take (i_ + 1)).filter fun (v : Ver) => !(v.epoch == e)).flatMap verE)) rfl (by rw [filter_snocN hx14 (by simpa using h15)])
        replace M : Mem _ _ _ [own 51 6 acc_ (((l.take (i_ + 1)).filter fun (v : Ver) => !(v.epoch == e)).length) (((l.take (i_ + 1)).filter fun (v : Ver) => !(v.epoch == e)).flatMap verE)] [SlAt 6 v l.length (l.flatMap verE)] _ := M
        exact ⟨_, (by omega), i_ + 1, acc_, ⟨(by omega), rfl⟩, ⟨rfl, rfl, rfl, rfl, rfl, rfl, rfl, rfl⟩, M⟩
    ·
      have h11p := of_decide_eq_false h11
      refine W.exit ?_
      refine thn_exit ?_
      refine thn_exit ?_
      refine inBlk_hit ?_
      refine W.seq' ?_
      refine W.region rfl ?_
      refine WL.step (v := acc_) rfl (Step.move rfl) ?_
      refine WL.step (v := acc_) rfl (Step.assign rfl) ?_
      refine WL.step (v := (Value.bool true)) rfl (Step.assign rfl) ?_
      refine WL.nil ?_
      refine W.ret ?_
      refine ⟨.inl rfl, (Value.tuple #[acc_, (Value.bool true)]), ?_, ?_⟩
      · exact ⟨rfl, (Res.r2 (show RV _ _ _ (.tmp 6) acc_ from by exact rfl) (show RV _ _ _ (.tmp 7) (Value.bool true) from by exact rfl))⟩
      replace M := M.shareOwn 0 rfl
      replace M : Mem _ _ _ [] [SlAt 6 acc_ ((l.take i_).filter fun (v : Ver) => !(v.epoch == e)).length (((l.take i_).filter fun (v : Ver) => !(v.epoch == e)).flatMap verE), SlAt 6 v l.length (l.flatMap verE)] _ := M
      have e21 : (dropV l e f).1 = (l.take i_).filter fun (v : Ver) => !(v.epoch == e) := by
        have hg_ : garb l e f = true := by simpa using h4
        have hii : i_ = l.length := by omega
        try subst hii
        try simp [dropV, hg_]
      have hf22 := M.shr' 0 rfl
      rw [← e21] at hf22
      refine ⟨acc_, ?_, M.close [] rfl (by decide) ⟨hf22, trivial⟩⟩
      have hg_ : garb l e f = true := by simpa using h4
      have hii : i_ = l.length := by omega
      try subst hii
      try simp [dropV, hg_]

theorem ref_trim {G : Nat → Prop} {w : World} (v : Value) (l : List Ver) (f : Int)  (hc : chainP l) (hb : l.length ≤ 1000000) (M : Mem G (fun _ => False) w [] [SlAt 6 v l.length (l.flatMap verE)] w) : Rets Try.prog 36 #[v, (Value.int .u64 f)] w fun r w' => ∃ (v' : Value), r = (Value.tuple #[v', (Value.int .i64 (↑(trimV l f).2))]) ∧ Mem G (fun _ => False) w [] [SlAt 6 v' ((trimV l f).1).length (((trimV l f).1).flatMap verE)] w' := by
  refine Rets.enter 33 _ Try.func36 rfl Try.ntmps36 Try.results36 (by simp) ?_
  have hle1 := SlAt.le' (M.rep 0 rfl)
  have sl2 : IsSl v := SlAt.isSl (Mem.rep M 0 rfl)
  refine W.seq' ?_
  refine W.region rfl ?_
  refine WL.step (v := (Value.slice none 0 0)) rfl (Step.assign rfl) ?_
  refine WL.step (v := (Value.int .i64 0)) rfl (Step.assign rfl) ?_
  refine WL.nil ?_
  refine W.seq' ?_
  refine W.region rfl ?_
  refine WL.step (v := (Value.int .i64 0)) rfl (Step.assign rfl) ?_
  refine WL.nil ?_
  refine W.seq' ?_
  refine W.seq' ?_
  refine W.region rfl ?_
  refine WL.step (v := (Value.int .i64 0)) rfl (Step.assign rfl) ?_
  refine WL.nil ?_
  refine W.block ?_
  refine W.loop (fun kk ρ w' => ∃ (l_ : List Ver) (v_ : Value) (n_ : Nat) (i_ : Nat), ((chainP l_) ∧ (trimV l f = ((trimV l_ f).1, (trimV l_ f).2 + n_)) ∧ (∀ (j : Nat) (u : Ver), j < i_ → l_[j]? = some u → (fun v => garbV l_ v f) u = false) ∧ (i_ ≤ l_.length) ∧ (n_ + l_.length = l.length) ∧ kk = trimM l_.length i_) ∧ ρ.has [(0, v_), (1, (Value.int .u64 f)), (4, (Value.slice none 0 0)), (5, (Value.int .i64 0)), (6, (Value.int .i64 ↑n_)), (7, (Value.int .i64 ↑i_))] ∧ Mem G (fun _ => False) w [] [SlAt 6 v_ l_.length (l_.flatMap verE)]  w') _ ⟨l, _, 0, 0, ⟨(by assumption), rfl, (fun _ _ h => absurd h (Nat.not_lt_zero _)), (Nat.zero_le _), (by omega), rfl⟩, ⟨rfl, rfl, rfl, rfl, rfl, rfl, rfl, rfl⟩, M⟩ ?_
  rintro _ ρ4 w3 ⟨l_, v_, n_, i_, ⟨hi5, hi6, hi7, hi8, hi9, rfl⟩, hρ, M⟩
  obtain ⟨ρ4, rfl⟩ := hρ.know
  clear hρ
  have hcl_ : chainP l_ := hi5
  refine W.seq' ?_
  refine W.seq' ?_
  refine W.region rfl ?_
  refine WL.step (v := (Value.int .i64 ↑i_)) rfl (Step.move rfl) ?_
  refine WL.step (v := v_) rfl (Step.move rfl) ?_
  refine WL.step (v := (Value.int .i64 ↑l_.length)) rfl (Step.lenSl Try.un41 rfl (M.rep 0 rfl)) ?_
  refine WL.step (v := (Value.bool (decide ((↑i_ : Int) < (↑l_.length : Int))))) rfl (Step.pure (by kernel_rfl)) ?_
  refine WL.nil ?_
  refine W.cond (t := decide ((↑i_ : Int) < (↑l_.length : Int))) rfl (fun h10 => ?_) (fun h10 => ?_)
  ·
    have h10p := of_decide_eq_true h10
    refine W.skip ?_
    refine W.seq' ?_
    refine W.block ?_
    refine W.seq' ?_
    refine W.region rfl ?_
    refine WL.step (v := v_) rfl (Step.move rfl) ?_
    refine WL.step (v := v_) rfl (Step.move rfl) ?_
    refine WL.step (v := (Value.int .i64 ↑i_)) rfl (Step.move rfl) ?_
    obtain ⟨cap12, hb11⟩ := SlAt.base (M.rep 0 rfl) (by omega)
    obtain ⟨x13, hx13⟩ := elem_of_lt (xs := l_) (i := i_) (by omega)
    refine WL.step (v := (Value.pointer (some ⟨(sBlk v_), sOff v_ + i_ * 6, none⟩))) rfl (Step.indexAddr (i := i_) (Try.un41).run Try.el51.sized rfl rfl (by omega) hb11 (by omega)) ?_
    refine WL.step (v := (Value.pointer (some ⟨(sBlk v_), sOff v_ + i_ * 6, none⟩))) rfl (Step.pure (by kernel_rfl)) ?_
    refine WL.step (v := (Value.int .u64 x13.epoch)) rfl (Step.loadE (k := 0) Try.sc23 (flat_ec (M.rep 0 rfl) hx13 verE_len) (by decide) rfl rfl) ?_
    refine WL.step (v := (Value.int .u64 f)) rfl (Step.move rfl) ?_
    refine WL.callX rfl (ref_drop v_ l_ x13.epoch f (by assumption) (by first | omega | assumption | decide | (simp only [List.length_nil, List.length_cons, List.length_take, List.length_drop]; omega)) (M.enter0 ⟨(M.shr' 0 rfl), trivial⟩)) (CallsF.func Try.en34 rfl) ?_
    rintro _ w15 ⟨v14, rfl, m⟩
    replace M := M.leave0 m
    clear m
    replace M : Mem _ _ _ [] [SlAt 6 v14 ((dropV l_ x13.epoch f).1).length (((dropV l_ x13.epoch f).1).flatMap verE), SlAt 6 v_ l_.length (l_.flatMap verE)] _ := M
    have sl16 : IsSl v14 := SlAt.isSl (Mem.rep M 0 rfl)
    have hle17 := SlAt.le' (M.rep 0 rfl)
    refine WL.step (v := (Value.tuple #[v14, (Value.bool ((dropV l_ x13.epoch f).2))])) rfl (Step.move rfl) ?_
    refine WL.step (v := v14) rfl (Step.pure (by kernel_rfl)) ?_
    refine WL.step (v := (Value.bool ((dropV l_ x13.epoch f).2))) rfl (Step.pure (by kernel_rfl)) ?_
    refine WL.step (v := v14) rfl (Step.assign rfl) ?_
    refine WL.step (v := (Value.bool ((dropV l_ x13.epoch f).2))) rfl (Step.assign rfl) ?_
    refine WL.nil ?_
    refine W.seq' ?_
    refine W.region rfl ?_
    refine WL.step (v := (Value.bool ((dropV l_ x13.epoch f).2))) rfl (Step.move rfl) ?_
    refine WL.nil ?_
    refine W.cond (t := (dropV l_ x13.epoch f).2) rfl (fun h18 => ?_) (fun h18 => ?_)
    ·
      refine W.seq' ?_
      refine W.region rfl ?_
      refine WL.step (v := v14) rfl (Step.move rfl) ?_
      refine WL.step (v := v14) rfl (Step.assign rfl) ?_
      refine WL.nil ?_
      refine W.seq' ?_
      refine W.region rfl ?_
      refine WL.step (v := (Value.int .i64 ↑n_)) rfl (Step.move rfl) ?_
      refine WL.step (v := (Value.int .i64 (↑n_ + 1))) rfl (Step.add rfl rfl (wrap_i64 (by omega))) ?_
      refine WL.step (v := (Value.int .i64 (↑n_ + 1))) rfl (Step.assign rfl) ?_
      refine WL.nil ?_
      refine W.region rfl ?_
      refine WL.step (v := (Value.int .i64 (-1))) rfl (Step.assign rfl) ?_
      refine WL.nil ?_
      refine W.region rfl ?_
      refine WL.step (v := (Value.int .i64 (-1))) rfl (Step.move rfl) ?_
      refine WL.step (v := (Value.int .i64 0)) rfl (Step.pure (by kernel_rfl)) ?_
      refine WL.step (v := (Value.int .i64 0)) rfl (Step.assign rfl) ?_
      refine WL.nil ?_
      obtain ⟨hd1, hd2⟩ := drop_hit hcl_ hx13 hi7 h18
      have hil := (List.getElem?_eq_some_iff.1 hx13).1
      have hdl : (dropV l_ x13.epoch f).1.length = l_.length - 1 := by rw [hd1]; exact List.length_eraseIdx_of_lt hil
      have htm := trimM_cut hil
      rw [← hdl] at htm
      replace M := M.facts (R' := [SlAt 6 v14 ((dropV l_ x13.epoch f).1).length (((dropV l_ x13.epoch f).1).flatMap verE)]) (Facts.all ⟨M.shr' 0 rfl, trivial⟩)
      exact ⟨_, (by omega), (dropV l_ x13.epoch f).1, _, n_ + 1, 0, ⟨hcl_.drop, (by rw [hd1]; exact trim_next hi6 hd2), (fun _ _ h => absurd h (Nat.not_lt_zero _)), (Nat.zero_le _), (by omega), rfl⟩, ⟨rfl, rfl, rfl, rfl, rfl, rfl, rfl, rfl⟩, M⟩
    ·
      refine W.skip ?_
      refine W.region rfl ?_
      refine WL.step (v := (Value.int .i64 ↑i_)) rfl (Step.move rfl) ?_
      refine WL.step (v := (Value.int .i64 (↑i_ + 1))) rfl (Step.add rfl rfl (wrap_i64 (by omega))) ?_
      refine WL.step (v := (Value.int .i64 (↑i_ + 1))) rfl (Step.assign rfl) ?_
      refine WL.nil ?_
      have htm := trimM_next (List.getElem?_eq_some_iff.1 hx13).1
      replace M := M.sub (List.Sublist.refl _) (R' := [SlAt 6 v_ l_.length (l_.flatMap verE)]) (fun r h => (List.mem_cons_of_mem _ h))
      exact ⟨_, (by omega), l_, _, n_, i_ + 1, ⟨hcl_, hi6, (below_stepG hi7 hx13 (drop_miss hcl_ hx13 h18)), (by omega), (by omega), rfl⟩, ⟨rfl, rfl, rfl, rfl, rfl, rfl, rfl, rfl⟩, M⟩
  ·
    have h10p := of_decide_eq_false h10
    refine W.exit ?_
    refine thn_exit ?_
    refine thn_exit ?_
    refine inBlk_hit ?_
    refine W.seq' ?_
    refine W.region rfl ?_
    refine WL.step (v := v_) rfl (Step.move rfl) ?_
    refine WL.step (v := (Value.int .i64 ↑n_)) rfl (Step.move rfl) ?_
    refine WL.step (v := v_) rfl (Step.assign rfl) ?_
    refine WL.step (v := (Value.int .i64 ↑n_)) rfl (Step.assign rfl) ?_
    refine WL.nil ?_
    refine W.ret ?_
    refine ⟨.inl rfl, (Value.tuple #[v_, (Value.int .i64 ↑n_)]), ?_, ?_⟩
    · exact ⟨rfl, (Res.r2 (show RV _ _ _ (.tmp 4) v_ from by exact rfl) (show RV _ _ _ (.tmp 5) (Value.int .i64 ↑n_) from by exact rfl))⟩
    have e19 : (trimV l f).1 = l_ := by
      rw [trim_end hi6 hi7 (by omega)]
      try rfl
    have hf20 := M.shr' 0 rfl
    rw [← e19] at hf20
    refine ⟨v_, ?_, M.close [] rfl (by decide) ⟨hf20, trivial⟩⟩
    rw [trim_end hi6 hi7 (by omega)]
    try rfl

theorem ref_add {G : Nat → Prop} {w : World} (v : Value) (l : List Ver) (x : Ver)  (hc : chainP l) (hb : l.length ≤ 1000000) (M : Mem G (fun _ => False) w [] [SlAt 6 v l.length (l.flatMap verE)] w) : Rets Try.prog 37 #[v, (Value.agg #[(Value.int .u64 x.epoch), (Value.bool x.dead), (Value.int .i64 x.agg.count), (Value.int .i64 x.agg.sum), (Value.int .i64 x.agg.min), (Value.int .i64 x.agg.max)])] w fun r w' => ∃ (v' : Value), r = (Value.tuple #[v', (Value.int .i64 ((addV l x).2))]) ∧ Mem G (fun _ => False) w [] [SlAt 6 v' ((addV l x).1).length (((addV l x).1).flatMap verE)] w' := by
  refine Rets.enter 34 _ Try.func37 rfl Try.ntmps37 Try.results37 (by simp) ?_
  have hle1 := SlAt.le' (M.rep 0 rfl)
  have sl2 : IsSl v := SlAt.isSl (Mem.rep M 0 rfl)
  refine W.seq' ?_
  refine W.region rfl ?_
  refine WL.box (v := (Value.agg #[(Value.int .u64 x.epoch), (Value.bool x.dead), (Value.int .i64 x.agg.count), (Value.int .i64 x.agg.sum), (Value.int .i64 x.agg.min), (Value.int .i64 x.agg.max)])) (c := #[(Value.int .u64 x.epoch), (Value.bool x.dead), (Value.int .i64 x.agg.count), (Value.int .i64 x.agg.sum), (Value.int .i64 x.agg.min), (Value.int .i64 x.agg.max)]) M rfl rfl rfl (fun b3 w4 hb3 M => ?_)
  refine WL.step (v := (Value.slice none 0 0)) rfl (Step.assign rfl) ?_
  refine WL.step (v := (Value.int .i64 0)) rfl (Step.assign rfl) ?_
  refine WL.nil ?_
  refine W.seq' ?_
  refine W.seq' ?_
  refine W.region rfl ?_
  refine WL.step (v := (Value.agg #[(Value.int .u64 x.epoch), (Value.bool x.dead), (Value.int .i64 x.agg.count), (Value.int .i64 x.agg.sum), (Value.int .i64 x.agg.min), (Value.int .i64 x.agg.max)])) rfl (Step.loadN Try.ag51 rfl (M.blk 0 rfl) (Nat.le_of_ble_eq_true rfl) rfl) ?_
  refine WL.callX rfl (ref_right1 x (M.enterW0 trivial)) (CallsF.func Try.en86 rfl) ?_
  rintro _ w5 ⟨rfl, m⟩
  replace M := M.leaveW0 m
  clear m
  replace M : Mem _ _ _ [blk b3 (.cells #[(Value.int .u64 x.epoch), (Value.bool x.dead), (Value.int .i64 x.agg.count), (Value.int .i64 x.agg.sum), (Value.int .i64 x.agg.min), (Value.int .i64 x.agg.max)] 51)] [SlAt 6 v l.length (l.flatMap verE)] _ := M
  refine WL.step (v := (Value.bool (!(rightV x)))) rfl (Step.pure (by kernel_rfl)) ?_
  refine WL.nil ?_
  refine W.cond (t := !(rightV x)) rfl (fun h6 => ?_) (fun h6 => ?_)
  ·
    refine W.seq' ?_
    refine W.region rfl ?_
    refine WL.step (v := v) rfl (Step.move rfl) ?_
    refine WL.step (v := v) rfl (Step.assign rfl) ?_
    refine WL.step (v := (Value.int .i64 2)) rfl (Step.assign rfl) ?_
    refine WL.nil ?_
    refine W.ret ?_
    refine ⟨.inl rfl, (Value.tuple #[v, (Value.int .i64 2)]), ?_, ?_⟩
    · exact ⟨rfl, (Res.r2 (show RV _ _ _ (.tmp 4) v from by exact rfl) (show RV _ _ _ (.tmp 5) (Value.int .i64 2) from by exact rfl))⟩
    have e7 : (addV l x).1 = l := by
      rw [add_wrong (by simpa using h6)]
      try rfl
    have hf8 := M.shr' 0 rfl
    rw [← e7] at hf8
    refine ⟨v, ?_, M.close [] rfl (by decide) ⟨hf8, trivial⟩⟩
    rw [add_wrong (by simpa using h6)]
    try rfl
  ·
    refine W.skip ?_
    refine W.seq' ?_
    refine W.seq' ?_
    refine W.region rfl ?_
    refine WL.step (v := (Value.int .i64 0)) rfl (Step.assign rfl) ?_
    refine WL.nil ?_
    refine W.block ?_
    refine W.loop (fun kk ρ w' => ∃ (i_ : Nat), ((i_ ≤ l.length) ∧ (∀ (j : Nat) (u : Ver), j < i_ → l[j]? = some u → (fun v => decide (v.epoch ≥ x.epoch)) u = false) ∧ kk = l.length - i_) ∧ ρ.has [(0, v), (3, (Value.pointer (some ⟨b3, 0, none⟩))), (6, (Value.int .i64 ↑i_))] ∧ Mem G (fun _ => False) w [blk b3 (.cells #[(Value.int .u64 x.epoch), (Value.bool x.dead), (Value.int .i64 x.agg.count), (Value.int .i64 x.agg.sum), (Value.int .i64 x.agg.min), (Value.int .i64 x.agg.max)] 51)] [SlAt 6 v l.length (l.flatMap verE)]  w') _ ⟨0, ⟨(Nat.zero_le _), (fun _ _ h => absurd h (Nat.not_lt_zero _)), rfl⟩, ⟨rfl, rfl, rfl, rfl, rfl⟩, M⟩ ?_
    rintro _ ρ10 w9 ⟨i_, ⟨hi11, hi12, rfl⟩, hρ, M⟩
    obtain ⟨ρ10, rfl⟩ := hρ.know
    clear hρ
    refine W.seq' ?_
    refine W.seq' ?_
    refine W.region rfl ?_
    refine WL.step (v := (Value.int .i64 ↑i_)) rfl (Step.move rfl) ?_
    refine WL.step (v := v) rfl (Step.move rfl) ?_
    refine WL.step (v := (Value.int .i64 ↑l.length)) rfl (Step.lenSl Try.un41 rfl (M.rep 0 rfl)) ?_
    refine WL.step (v := (Value.bool (decide ((↑i_ : Int) < (↑l.length : Int))))) rfl (Step.pure (by kernel_rfl)) ?_
    refine WL.nil ?_
    refine W.cond (t := decide ((↑i_ : Int) < (↑l.length : Int))) rfl (fun h13 => ?_) (fun h13 => ?_)
    ·
      have h13p := of_decide_eq_true h13
      refine W.skip ?_
      refine W.seq' ?_
      refine W.block ?_
      refine W.seq' ?_
      obtain ⟨cap15, hb14⟩ := SlAt.base (M.rep 0 rfl) (by omega)
      obtain ⟨x16, hx16⟩ := elem_of_lt (xs := l) (i := i_) (by omega)
      refine W.drawn M [0, 1, 2, 3, 4, 5, 6, 7] [] [] [blk b3 (.cells #[(Value.int .u64 x.epoch), (Value.bool x.dead), (Value.int .i64 x.agg.count), (Value.int .i64 x.agg.sum), (Value.int .i64 x.agg.min), (Value.int .i64 x.agg.max)] 51)] [SlAt 6 v l.length (l.flatMap verE)] (List.Sublist.cons_cons _ List.Sublist.slnil) (fun _ h => h) Try.mixed (by kernel_rfl) ?_
      refine TW.pure (v := v) rfl (by decide) (by decide) rfl (fun w => (Step.move rfl)) ?_
      refine TW.pure (v := (Value.int .i64 ↑i_)) rfl (by decide) (by decide) rfl (fun w => (Step.move rfl)) ?_
      refine TW.pure (v := (Value.pointer (some ⟨(sBlk v), sOff v + i_ * 6, none⟩))) rfl (by decide) (by decide) rfl (fun w => (Step.indexAddr (i := i_) (Try.un41).run Try.el51.sized rfl rfl (by omega) hb14 (by omega))) ?_
      refine TW.pure (v := (Value.pointer (some ⟨(sBlk v), sOff v + i_ * 6, none⟩))) rfl (by decide) (by decide) rfl (fun w => (Step.pure (by kernel_rfl))) ?_
      refine TW.read (v := (Value.int .u64 x16.epoch)) rfl (by decide) (by decide) rfl (fun A w M => (Step.loadE (k := 0) Try.sc23 (flat_ec (M.rep 0 rfl) hx16 verE_len) (by decide) rfl rfl)) ?_
      refine TW.pure (v := (Value.pointer (some ⟨b3, 0, none⟩))) rfl (by decide) (by decide) rfl (fun w => (Step.pure (by kernel_rfl))) ?_
      refine TW.read (v := (Value.int .u64 x.epoch)) rfl (by decide) (by decide) rfl (fun A w M => (Step.load1 Try.sc23 rfl ((M.cell 1 rfl 0).trans rfl))) ?_
      refine TW.pure (v := (Value.bool (decide ((x16.epoch : Int) ≥ (x.epoch : Int))))) rfl (by decide) (by decide) rfl (fun w => (Step.pure (by kernel_rfl))) ?_
      refine TW.done (fun w17 M => ?_)
      refine W.cond (t := decide ((x16.epoch : Int) ≥ (x.epoch : Int))) rfl (fun h18 => ?_) (fun h18 => ?_)
      ·
        have h18p := of_decide_eq_true h18
        refine W.seq' ?_
        refine W.region rfl ?_
        refine WL.step (v := v) rfl (Step.move rfl) ?_
        refine WL.step (v := v) rfl (Step.assign rfl) ?_
        refine WL.step (v := (Value.int .i64 150)) rfl (Step.assign rfl) ?_
        refine WL.nil ?_
        refine W.ret ?_
        refine ⟨.inl rfl, (Value.tuple #[v, (Value.int .i64 150)]), ?_, ?_⟩
        · exact ⟨rfl, (Res.r2 (show RV _ _ _ (.tmp 4) v from by exact rfl) (show RV _ _ _ (.tmp 5) (Value.int .i64 150) from by exact rfl))⟩
        have e19 : (addV l x).1 = l := by
          rw [add_no hc (by simpa using h6) hx16 (by simpa using h18)]
          try rfl
        have hf20 := M.shr' 0 rfl
        rw [← e19] at hf20
        refine ⟨v, ?_, M.close [] rfl (by decide) ⟨hf20, trivial⟩⟩
        rw [add_no hc (by simpa using h6) hx16 (by simpa using h18)]
        try rfl
      ·
        have h18p := of_decide_eq_false h18
        refine W.skip ?_
        refine W.region rfl ?_
        refine WL.step (v := (Value.int .i64 ↑i_)) rfl (Step.move rfl) ?_
        refine WL.step (v := (Value.int .i64 (↑i_ + 1))) rfl (Step.add rfl rfl (wrap_i64 (by omega))) ?_
        refine WL.step (v := (Value.int .i64 (↑i_ + 1))) rfl (Step.assign rfl) ?_
        refine WL.nil ?_
        exact ⟨_, (by omega), i_ + 1, ⟨(by omega), (below_stepG hi12 hx16 (by simpa using h18)), rfl⟩, ⟨rfl, rfl, rfl, rfl, rfl⟩, M⟩
    ·
      have h13p := of_decide_eq_false h13
      refine W.exit ?_
      refine thn_exit ?_
      refine thn_exit ?_
      refine inBlk_hit ?_
      refine W.seq' ?_
      refine W.region rfl ?_
      refine WL.step (v := (Value.slice none 0 0)) rfl (Step.assign rfl) ?_
      refine WL.nil ?_
      refine W.seq' ?_
      refine W.region rfl ?_
      refine WL.step (v := (Value.slice none 0 0)) rfl (Step.move rfl) ?_
      refine WL.step (v := v) rfl (Step.move rfl) ?_
      replace M := M.ownNil 51 6
      replace M : Mem _ _ _ [own 51 6 (Value.slice none 0 0) (([] : List Ver).length) (([] : List Ver).flatMap verE), blk b3 (.cells #[(Value.int .u64 x.epoch), (Value.bool x.dead), (Value.int .i64 x.agg.count), (Value.int .i64 x.agg.sum), (Value.int .i64 x.agg.min), (Value.int .i64 x.agg.max)] 51)] [SlAt 6 v l.length (l.flatMap verE)] _ := M
      refine WL.does rfl (M.appendF ([] : List Ver) l (sv := v) 0 Try.un41 Try.el51 rfl (by decide) rfl rfl rfl (M.rep 0 rfl) verE_cel (by have := hb; simp only [maxLen, List.length_nil, List.length_cons, List.length_append]; omega) (by have := hb; (try simp only [List.length_nil, List.length_cons, List.length_append]); omega)) ?_
      rintro v21 w22 M
      replace M : Mem _ _ _ [own 51 6 v21 l.length (l.flatMap verE), blk b3 (.cells #[(Value.int .u64 x.epoch), (Value.bool x.dead), (Value.int .i64 x.agg.count), (Value.int .i64 x.agg.sum), (Value.int .i64 x.agg.min), (Value.int .i64 x.agg.max)] 51)] [SlAt 6 v l.length (l.flatMap verE)] _ := M
      have sl23 : IsSl v21 := SlAt.isSl (own_slAt (M.chunk 0 rfl).inv)
      refine WL.step (v := v21) rfl (Step.assign rfl) ?_
      refine WL.nil ?_
      refine W.seq' ?_
      refine W.region rfl ?_
      refine WL.step (v := v21) rfl (Step.move rfl) ?_
      refine WL.step (v := (Value.agg #[(Value.int .u64 x.epoch), (Value.bool x.dead), (Value.int .i64 x.agg.count), (Value.int .i64 x.agg.sum), (Value.int .i64 x.agg.min), (Value.int .i64 x.agg.max)])) rfl (Step.loadN Try.ag51 rfl (M.blk 1 rfl) (Nat.le_of_ble_eq_true rfl) rfl) ?_
      refine WL.new (obj := .cells #[(Value.int .u64 x.epoch), (Value.bool x.dead), (Value.int .i64 x.agg.count), (Value.int .i64 x.agg.sum), (Value.int .i64 x.agg.min), (Value.int .i64 x.agg.max)] 51) (fun b => .slice (some ⟨b, 0, none⟩) 1 1) M rfl (fun w => Step.make (by kernel_rfl)) (fun b24 w25 hb24 M => ?_)
      refine WL.does rfl (M.appendF l ([x] : List Ver) (sv := (Value.slice (some ⟨b24, 0, none⟩) 1 1)) 1 Try.un41 Try.el51 rfl (by decide) rfl rfl rfl (SlAt.of_blk (M.blk 0 rfl) rfl (by decide)) verE_cel (by have := hb; simp only [maxLen, List.length_nil, List.length_cons, List.length_append]; omega) (by have := hb; (try simp only [List.length_nil, List.length_cons, List.length_append]); omega)) ?_
      rintro v26 w27 M
      replace M : Mem _ _ _ [blk b24 (.cells #[(Value.int .u64 x.epoch), (Value.bool x.dead), (Value.int .i64 x.agg.count), (Value.int .i64 x.agg.sum), (Value.int .i64 x.agg.min), (Value.int .i64 x.agg.max)] 51), own 51 6 v26 ((l ++ ([x] : List Ver)).length) ((l ++ ([x] : List Ver)).flatMap verE), blk b3 (.cells #[(Value.int .u64 x.epoch), (Value.bool x.dead), (Value.int .i64 x.agg.count), (Value.int .i64 x.agg.sum), (Value.int .i64 x.agg.min), (Value.int .i64 x.agg.max)] 51)] [SlAt 6 v l.length (l.flatMap verE)] _ := M
      have sl28 : IsSl v26 := SlAt.isSl (own_slAt (M.chunk 1 rfl).inv)
      refine WL.step (v := v26) rfl (Step.assign rfl) ?_
      refine WL.step (v := (Value.int .i64 0)) rfl (Step.assign rfl) ?_
      refine WL.nil ?_
      refine W.ret ?_
      refine ⟨.inl rfl, (Value.tuple #[v26, (Value.int .i64 0)]), ?_, ?_⟩
      · exact ⟨rfl, (Res.r2 (show RV _ _ _ (.tmp 4) v26 from by exact rfl) (show RV _ _ _ (.tmp 5) (Value.int .i64 0) from by exact rfl))⟩
      replace M := M.shareOwn 1 rfl
      replace M : Mem _ _ _ [blk b24 (.cells #[(Value.int .u64 x.epoch), (Value.bool x.dead), (Value.int .i64 x.agg.count), (Value.int .i64 x.agg.sum), (Value.int .i64 x.agg.min), (Value.int .i64 x.agg.max)] 51), blk b3 (.cells #[(Value.int .u64 x.epoch), (Value.bool x.dead), (Value.int .i64 x.agg.count), (Value.int .i64 x.agg.sum), (Value.int .i64 x.agg.min), (Value.int .i64 x.agg.max)] 51)] [SlAt 6 v26 (l ++ ([x] : List Ver)).length ((l ++ ([x] : List Ver)).flatMap verE), SlAt 6 v l.length (l.flatMap verE)] _ := M
      have e29 : (addV l x).1 = l ++ ([x] : List Ver) := by
        rw [add_yes hc (by simpa using h6) hi12 (by omega)]
        try rfl
      have hf30 := M.shr' 0 rfl
      rw [← e29] at hf30
      refine ⟨v26, ?_, M.close [] rfl (by decide) ⟨hf30, trivial⟩⟩
      rw [add_yes hc (by simpa using h6) hi12 (by omega)]
      try rfl
end Go.Proofs
