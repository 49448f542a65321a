/- Walks. -/
import Derived.Test.YtlehkjkpgmkbiaaTrL1
import Derived.Test.YtlehkjkpgmkbiaaTrDel
set_option maxRecDepth 100000
set_option linter.all false
namespace Go.Proofs
open Go Tp
theorem Try.en126 : Enters Try.prog 126 := fun _ _ => by kernel_rfl

theorem clone_lease {G : Nat → Prop} {w : World} (v : Value) (xs : List Lease)  (hb : xs.length * 40 ≤ 140737488355328) (M : Mem G (fun _ => False) w [] [SlAt 5 v xs.length (xs.flatMap leaseE)] w) : Rets Try.prog 106 #[v] w fun r w' => ∃ (v' : Value), r = v' ∧ Mem G (fun _ => False) w [own 85 5 v' xs.length (xs.flatMap leaseE)] [] w' := by
  refine Rets.enter 8 _ Try.func106 rfl Try.ntmps106 Try.results106 (by simp) ?_
  have hle1 := SlAt.le' (M.rep 0 rfl)
  have sl2 : IsSl v := SlAt.isSl (Mem.rep M 0 rfl)
  refine W.seq' ?_
  refine W.region rfl ?_
  refine WL.step (v := (Value.slice none 0 0)) rfl (Step.assign rfl) ?_
  refine WL.nil ?_
  refine W.seq' ?_
  refine W.seq' ?_
  refine W.region rfl ?_
  refine WL.step (v := v) rfl (Step.move rfl) ?_
  rcases SlAt.cases (M.rep 0 rfl) with ⟨hn3, hn3z⟩ | ⟨_, _, hn3⟩
  ·
    refine WL.step (v := (Value.bool true)) rfl (Step.eqNil Try.un100 rfl hn3 rfl) ?_
    refine WL.nil ?_
    refine W.cond (t := true) rfl (fun _ => ?_) (fun h => by cases h)
    refine W.seq' ?_
    refine W.region rfl ?_
    refine WL.step (v := (Value.slice none 0 0)) rfl (Step.assign rfl) ?_
    refine WL.nil ?_
    refine W.ret ?_
    refine ⟨.inl rfl, (Value.slice none 0 0), ?_, ?_⟩
    · exact ⟨rfl, (Res.r1 (show RV _ _ _ (.tmp 2) (Value.slice none 0 0) from by exact rfl))⟩
    replace M := M.ownNil 85 5
    have e4 : xs = [] := by
      exact List.eq_nil_of_length_eq_zero hn3z
    replace M : Mem _ _ _ [own 85 5 (Value.slice none 0 0) (([] : List Lease).length) (([] : List Lease).flatMap leaseE)] [SlAt 5 v xs.length (xs.flatMap leaseE)] _ := M
    replace M := M.rechunk 0 (c' := own 85 5 (Value.slice none 0 0) xs.length (xs.flatMap leaseE)) rfl (by rw [e4])
    replace M : Mem _ _ _ [own 85 5 (Value.slice none 0 0) xs.length (xs.flatMap leaseE)] [SlAt 5 v xs.length (xs.flatMap leaseE)] _ := M
    refine ⟨(Value.slice none 0 0), ?_, M.close [0] rfl (by decide) trivial⟩
    rfl
  ·
    refine WL.step (v := (Value.bool false)) rfl (Step.eqSome Try.un100 rfl hn3 rfl) ?_
    refine WL.nil ?_
    refine W.cond (t := false) rfl (fun h => by cases h) (fun _ => ?_)
    refine W.skip ?_
    refine W.seq' ?_
    refine W.region rfl ?_
    refine WL.new (obj := .cells #[] 85) (fun b => .slice (some ⟨b, 0, none⟩) 0 0) M rfl (fun w => Step.make (by kernel_rfl)) (fun b5 w6 hb5 M => ?_)
    refine WL.step (v := v) rfl (Step.move rfl) ?_
    replace M := M.ownBlk 0 (n := 0) (size := 5) rfl rfl (by decide)
    replace M : Mem _ _ _ [own 85 5 (Value.slice (some ⟨b5, 0, none⟩) 0 0) (([] : List Lease).length) (([] : List Lease).flatMap leaseE)] [SlAt 5 v xs.length (xs.flatMap leaseE)] _ := M
    refine WL.does rfl (M.appendF ([] : List Lease) xs (sv := v) 0 Try.un100 Try.el85 rfl (by decide) rfl rfl rfl (M.rep 0 rfl) leaseE_cel (by have := trivial; simp only [maxLen, List.length_nil, List.length_cons, List.length_append]; omega) (by have := trivial; (try simp only [List.length_nil, List.length_cons, List.length_append]); omega)) ?_
    rintro v7 w8 M
    replace M : Mem _ _ _ [own 85 5 v7 xs.length (xs.flatMap leaseE)] [SlAt 5 v xs.length (xs.flatMap leaseE)] _ := M
    have sl9 : IsSl v7 := SlAt.isSl (own_slAt (M.chunk 0 rfl).inv)
    refine WL.step (v := v7) rfl (Step.assign rfl) ?_
    refine WL.nil ?_
    refine W.ret ?_
    refine ⟨.inl rfl, v7, ?_, ?_⟩
    · exact ⟨rfl, (Res.r1 (show RV _ _ _ (.tmp 2) v7 from by exact rfl))⟩
    refine ⟨v7, ?_, M.close [0] rfl (by decide) trivial⟩
    rfl

theorem index_lease {G X : Nat → Prop} {w : World} (v : Value) (xs : List Lease) (f : Value)   {ι : Type} (C : Nat → ι → Chunk) (q0_ : ι) (p : Lease → Bool) (hf : FnC Try.prog f leaseV xs p C) (M : Mem G X w [C 0 q0_] [SlAt 5 v xs.length (xs.flatMap leaseE)] w) : Rets Try.prog 126 #[v, f] w fun r w' => ∃ q_, r = .int .i64 (ixF p xs) ∧ Mem G X w [C (ixN p xs) q_] [] w' := by
  refine Rets.enter 19 _ Try.func126 rfl Try.ntmps126 Try.results126 (by simp) ?_
  have hle1 := SlAt.le' (M.rep 0 rfl)
  have sl2 : IsSl v := SlAt.isSl (Mem.rep M 0 rfl)
  refine W.seq' ?_
  refine W.region rfl ?_
  refine WL.step (v := (Value.int .i64 0)) rfl (Step.assign rfl) ?_
  refine WL.nil ?_
  refine W.seq' ?_
  refine W.seq' ?_
  refine W.region rfl ?_
  refine WL.step (v := v) rfl (Step.move rfl) ?_
  refine WL.step (v := (Value.int .i64 ↑xs.length)) rfl (Step.lenSl Try.un100 rfl (M.rep 0 rfl)) ?_
  refine WL.step (v := (Value.int .i64 0)) rfl (Step.move rfl) ?_
  refine WL.nil ?_
  refine W.block ?_
  refine W.loop (fun kk ρ w' => ∃ (i_ : Nat) (q_ : ι), ((i_ ≤ xs.length) ∧ (∀ j u, j < i_ → xs[j]? = some u → p u = false) ∧ kk = xs.length - i_) ∧ ρ.has [(0, v), (1, f), (7, (Value.int .i64 ↑xs.length)), (8, (Value.int .i64 ↑i_))] ∧ Mem G X w [C i_ q_] [SlAt 5 v xs.length (xs.flatMap leaseE)]  w') _ ⟨0, q0_, ⟨(Nat.zero_le _), (fun _ _ h => absurd h (Nat.not_lt_zero _)), rfl⟩, ⟨rfl, rfl, rfl, rfl, rfl, rfl⟩, M⟩ ?_
  rintro _ ρ4 w3 ⟨i_, q_, ⟨hi5, hi6, rfl⟩, hρ, M⟩
  obtain ⟨ρ4, rfl⟩ := hρ.know
  clear hρ
  refine W.seq' ?_
  refine W.region rfl ?_
  refine WL.step (v := (Value.bool (decide ((↑i_ : Int) < (↑xs.length : Int))))) rfl (Step.pure (by kernel_rfl)) ?_
  refine WL.nil ?_
  refine W.seq' ?_
  refine W.cond (t := decide ((↑i_ : Int) < (↑xs.length : Int))) rfl (fun h7 => ?_) (fun h7 => ?_)
  ·
    have h7p := of_decide_eq_true h7
    refine W.skip ?_
    refine W.seq' ?_
    refine W.block ?_
    refine W.seq' ?_
    refine W.region rfl ?_
    refine WL.step (v := (Value.int .i64 ↑i_)) rfl (Step.move rfl) ?_
    refine WL.step (v := (Value.int .i64 ↑i_)) rfl (Step.assign rfl) ?_
    refine WL.nil ?_
    refine W.seq' ?_
    refine W.region rfl ?_
    refine WL.step (v := f) rfl (Step.move rfl) ?_
    refine WL.step (v := v) rfl (Step.move rfl) ?_
    refine WL.step (v := (Value.int .i64 ↑i_)) rfl (Step.move rfl) ?_
    obtain ⟨cap9, hb8⟩ := SlAt.base (M.rep 0 rfl) (by omega)
    obtain ⟨x10, hx10⟩ := elem_of_lt (xs := xs) (i := i_) (by omega)
    refine WL.step (v := (Value.pointer (some ⟨(sBlk v), sOff v + i_ * 5, none⟩))) rfl (Step.indexAddr (i := i_) (Try.un100).run Try.el85.sized rfl rfl (by omega) hb8 (by omega)) ?_
    refine WL.step (v := (Value.agg #[(Value.int .u64 x10.id), (Value.int .i64 x10.owner), (Value.int .u64 x10.epoch), (Value.int .u64 x10.till), (Value.bool x10.cursor)])) rfl (Step.loadEN (k := 0) (cs' := [(Value.int .u64 x10.id), (Value.int .i64 x10.owner), (Value.int .u64 x10.epoch), (Value.int .u64 x10.till), (Value.bool x10.cursor)]) Try.ag85 (flat_ec (M.rep 0 rfl) hx10 leaseE_len) (by decide) rfl rfl rfl) ?_
    refine WL.callV rfl rfl rfl (hf i_ q_ x10 _ hx10 (M.enterW (C := [C i_ q_]) (D := []) [0] rfl (by decide) trivial)) ?_
    rintro _ w11 ⟨rfl, q12, m⟩
    replace M := M.leaveW (C := [C i_ q_]) (D := []) [0] rfl (by decide) m
    replace M : Mem _ _ _ [C (i_ + 1) q12] [SlAt 5 v xs.length (xs.flatMap leaseE)] _ := M
    refine WL.nil ?_
    refine W.cond (t := p x10) rfl (fun h13 => ?_) (fun h13 => ?_)
    ·
      refine W.seq' ?_
      refine W.region rfl ?_
      refine WL.step (v := (Value.int .i64 ↑i_)) rfl (Step.move rfl) ?_
      refine WL.step (v := (Value.int .i64 ↑i_)) rfl (Step.assign rfl) ?_
      refine WL.nil ?_
      refine W.ret ?_
      refine ⟨.inl rfl, (Value.int .i64 ↑i_), ?_, ?_⟩
      · exact ⟨rfl, (Res.r1 (show RV _ _ _ (.tmp 4) (Value.int .i64 ↑i_) from by exact rfl))⟩
      have hq := ixF_some (findIdx_hit hx10 h13 hi6)
      rw [hq.1, hq.2]
      exact ⟨_, rfl, M.close [0] rfl (by decide) trivial⟩
    ·
      refine W.skip ?_
      refine W.region rfl ?_
      refine WL.step (v := (Value.int .i64 (↑i_ + 1))) rfl (Step.add rfl rfl (wrap_i64 (by omega))) ?_
      refine WL.step (v := (Value.int .i64 (↑i_ + 1))) rfl (Step.move rfl) ?_
      refine WL.nil ?_
      have hs := below_stepG hi6 hx10 h13
      exact ⟨_, (by omega), i_ + 1, q12, ⟨(by omega), hs, rfl⟩, ⟨rfl, rfl, rfl, rfl, rfl, rfl⟩, M⟩
  ·
    have h7p := of_decide_eq_false h7
    refine W.exit ?_
    refine thn_exit ?_
    refine thn_exit ?_
    refine inBlk_hit ?_
    refine W.seq' ?_
    refine W.region rfl ?_
    refine WL.step (v := (Value.int .i64 (-1))) rfl (Step.assign rfl) ?_
    refine WL.nil ?_
    refine W.ret ?_
    refine ⟨.inl rfl, (Value.int .i64 (-1)), ?_, ?_⟩
    · exact ⟨rfl, (Res.r1 (show RV _ _ _ (.tmp 4) (Value.int .i64 (-1)) from by exact rfl))⟩
    have hq := ixF_none (findIdx_none hi6 (by omega))
    have hkk : i_ = xs.length := by omega
    rw [hkk] at M
    rw [hq.1, hq.2]
    exact ⟨_, rfl, M.close [0] rfl (by decide) trivial⟩

theorem indexb_lease {G : Nat → Prop} {w : World} (v : Value) (xs : List Lease) (f : Value) (p : Lease → Bool)  (M : Mem G (fun _ => False) w [] [SlAt 5 v xs.length (xs.flatMap leaseE), FnB Try.prog f leaseV xs p] w) : Rets Try.prog 126 #[v, f] w fun r w' => r = (Value.int .i64 (ixF p xs)) ∧ Mem G (fun _ => False) w [] [] w' := by
  refine Rets.enter 19 _ Try.func126 rfl Try.ntmps126 Try.results126 (by simp) ?_
  have hle1 := SlAt.le' (M.rep 0 rfl)
  have sl2 : IsSl v := SlAt.isSl (Mem.rep M 0 rfl)
  refine W.seq' ?_
  refine W.region rfl ?_
  refine WL.step (v := (Value.int .i64 0)) rfl (Step.assign rfl) ?_
  refine WL.nil ?_
  refine W.seq' ?_
  refine W.seq' ?_
  refine W.region rfl ?_
  refine WL.step (v := v) rfl (Step.move rfl) ?_
  refine WL.step (v := (Value.int .i64 ↑xs.length)) rfl (Step.lenSl Try.un100 rfl (M.rep 0 rfl)) ?_
  refine WL.step (v := (Value.int .i64 0)) rfl (Step.move rfl) ?_
  refine WL.nil ?_
  refine W.block ?_
  refine W.loop (fun kk ρ w' => ∃ (i_ : Nat), ((i_ ≤ xs.length) ∧ (∀ j u, j < i_ → xs[j]? = some u → p u = false) ∧ kk = xs.length - i_) ∧ ρ.has [(0, v), (1, f), (7, (Value.int .i64 ↑xs.length)), (8, (Value.int .i64 ↑i_))] ∧ Mem G (fun _ => False) w [] [SlAt 5 v xs.length (xs.flatMap leaseE), FnB Try.prog f leaseV xs p]  w') _ ⟨0, ⟨(Nat.zero_le _), (fun _ _ h => absurd h (Nat.not_lt_zero _)), rfl⟩, ⟨rfl, rfl, rfl, rfl, rfl, rfl⟩, M⟩ ?_
  rintro _ ρ4 w3 ⟨i_, ⟨hi5, hi6, rfl⟩, hρ, M⟩
  obtain ⟨ρ4, rfl⟩ := hρ.know
  clear hρ
  refine W.seq' ?_
  refine W.region rfl ?_
  refine WL.step (v := (Value.bool (decide ((↑i_ : Int) < (↑xs.length : Int))))) rfl (Step.pure (by kernel_rfl)) ?_
  refine WL.nil ?_
  refine W.seq' ?_
  refine W.cond (t := decide ((↑i_ : Int) < (↑xs.length : Int))) rfl (fun h7 => ?_) (fun h7 => ?_)
  ·
    have h7p := of_decide_eq_true h7
    refine W.skip ?_
    refine W.seq' ?_
    refine W.block ?_
    refine W.seq' ?_
    refine W.region rfl ?_
    refine WL.step (v := (Value.int .i64 ↑i_)) rfl (Step.move rfl) ?_
    refine WL.step (v := (Value.int .i64 ↑i_)) rfl (Step.assign rfl) ?_
    refine WL.nil ?_
    refine W.seq' ?_
    refine W.region rfl ?_
    refine WL.step (v := f) rfl (Step.move rfl) ?_
    refine WL.step (v := v) rfl (Step.move rfl) ?_
    refine WL.step (v := (Value.int .i64 ↑i_)) rfl (Step.move rfl) ?_
    obtain ⟨cap9, hb8⟩ := SlAt.base (M.rep 0 rfl) (by omega)
    obtain ⟨x10, hx10⟩ := elem_of_lt (xs := xs) (i := i_) (by omega)
    refine WL.step (v := (Value.pointer (some ⟨(sBlk v), sOff v + i_ * 5, none⟩))) rfl (Step.indexAddr (i := i_) (Try.un100).run Try.el85.sized rfl rfl (by omega) hb8 (by omega)) ?_
    refine WL.step (v := (Value.agg #[(Value.int .u64 x10.id), (Value.int .i64 x10.owner), (Value.int .u64 x10.epoch), (Value.int .u64 x10.till), (Value.bool x10.cursor)])) rfl (Step.loadEN (k := 0) (cs' := [(Value.int .u64 x10.id), (Value.int .i64 x10.owner), (Value.int .u64 x10.epoch), (Value.int .u64 x10.till), (Value.bool x10.cursor)]) Try.ag85 (flat_ec (M.rep 0 rfl) hx10 leaseE_len) (by decide) rfl rfl rfl) ?_
    refine WL.callV rfl rfl rfl ((M.rep 1 rfl : FnB _ _ _ _ _ _) x10 (List.mem_of_getElem? hx10)) ?_
    rintro _ w11 ⟨rfl, ho⟩
    replace M := M.old ho
    refine WL.nil ?_
    refine W.cond (t := p x10) rfl (fun h12 => ?_) (fun h12 => ?_)
    ·
      refine W.seq' ?_
      refine W.region rfl ?_
      refine WL.step (v := (Value.int .i64 ↑i_)) rfl (Step.move rfl) ?_
      refine WL.step (v := (Value.int .i64 ↑i_)) rfl (Step.assign rfl) ?_
      refine WL.nil ?_
      refine W.ret ?_
      refine ⟨.inl rfl, (Value.int .i64 ↑i_), ?_, ?_⟩
      · exact ⟨rfl, (Res.r1 (show RV _ _ _ (.tmp 4) (Value.int .i64 ↑i_) from by exact rfl))⟩
      refine ⟨?_, M.close [] rfl (by decide) trivial⟩
      rw [(ixF_some (findIdx_hit hx10 h12 hi6)).1]
    ·
      refine W.skip ?_
      refine W.region rfl ?_
      refine WL.step (v := (Value.int .i64 (↑i_ + 1))) rfl (Step.add rfl rfl (wrap_i64 (by omega))) ?_
      refine WL.step (v := (Value.int .i64 (↑i_ + 1))) rfl (Step.move rfl) ?_
      refine WL.nil ?_
      have hs := below_stepG hi6 hx10 h12
      exact ⟨_, (by omega), i_ + 1, ⟨(by omega), hs, rfl⟩, ⟨rfl, rfl, rfl, rfl, rfl, rfl⟩, M⟩
  ·
    have h7p := of_decide_eq_false h7
    refine W.exit ?_
    refine thn_exit ?_
    refine thn_exit ?_
    refine inBlk_hit ?_
    refine W.seq' ?_
    refine W.region rfl ?_
    refine WL.step (v := (Value.int .i64 (-1))) rfl (Step.assign rfl) ?_
    refine WL.nil ?_
    refine W.ret ?_
    refine ⟨.inl rfl, (Value.int .i64 (-1)), ?_, ?_⟩
    · exact ⟨rfl, (Res.r1 (show RV _ _ _ (.tmp 4) (Value.int .i64 (-1)) from by exact rfl))⟩
    refine ⟨?_, M.close [] rfl (by decide) trivial⟩
    rw [(ixF_none (findIdx_none hi6 (by omega))).1]

theorem delfunc_lease {G X : Nat → Prop} {w : World} (v : Value) (xs : List Lease) (f : Value)   {ι : Type} (C : Nat → ι → Chunk) (q0_ : ι) (p : Lease → Bool) (hf : FnC Try.prog f leaseV xs p C) (M : Mem G X w [own 85 5 v xs.length (xs.flatMap leaseE), C 0 q0_] [] w) : Rets Try.prog 129 #[v, f] w fun r w' => ∃ v' q_, r = v' ∧ Mem G X w [own 85 5 v' ((xs.filter fun x => !p x).length) ((xs.filter fun x => !p x).flatMap leaseE), C xs.length q_] [] w' := by
  refine Rets.enter 42 _ Try.func129 rfl Try.ntmps129 Try.results129 (by simp) ?_
  have sl1 : IsSl v := SlAt.isSl (own_slAt (Mem.chunk M 0 rfl).inv)
  have hle2 := SlAt.le' (own_slAt (Mem.chunk M 0 rfl).inv)
  refine W.seq' ?_
  refine W.region rfl ?_
  refine WL.step (v := (Value.slice none 0 0)) rfl (Step.assign rfl) ?_
  refine WL.nil ?_
  refine W.seq' ?_
  refine W.region rfl ?_
  refine WL.step (v := v) rfl (Step.move rfl) ?_
  refine WL.step (v := f) rfl (Step.move rfl) ?_
  refine WL.callX rfl (index_lease v xs f C q0_ p hf (M.enterW (C := [C 0 q0_]) (D := [own 85 5 v xs.length (xs.flatMap leaseE)]) [1, 0] rfl (by decide) ⟨((M.wideC (C := [C 0 q0_]) (D := [own 85 5 v xs.length (xs.flatMap leaseE)]) [1, 0] rfl (by decide) 0 rfl).imp fun _ h => own_slAt h), trivial⟩)) (CallsF.func Try.en126 rfl) ?_
  rintro _ w3 ⟨q1_, rfl, m⟩
  replace M := M.leaveW (C := [C 0 q0_]) (D := [own 85 5 v xs.length (xs.flatMap leaseE)]) [1, 0] rfl (by decide) m
  rcases hfi : xs.findIdx? p with _ | i0_
  ·
    rw [(ixF_none hfi).1]
    rw [(ixF_none hfi).2] at M
    replace M : Mem _ _ _ [C xs.length q1_, own 85 5 v xs.length (xs.flatMap leaseE)] [] _ := M
    refine WL.step (v := (Value.int .i64 (-1))) rfl (Step.assign rfl) ?_
    refine WL.nil ?_
    refine W.seq' ?_
    refine W.seq' ?_
    refine W.region rfl ?_
    refine WL.step (v := (Value.int .i64 (-1))) rfl (Step.move rfl) ?_
    refine WL.step (v := (Value.bool true)) rfl (Step.pure (by kernel_rfl)) ?_
    refine WL.nil ?_
    refine W.cond (t := true) rfl (fun _ => ?_) (fun h => by cases h)
    refine W.seq' ?_
    refine W.region rfl ?_
    refine WL.step (v := v) rfl (Step.move rfl) ?_
    refine WL.step (v := v) rfl (Step.assign rfl) ?_
    refine WL.nil ?_
    refine W.ret ?_
    refine ⟨.inl rfl, v, ?_, ?_⟩
    · exact ⟨rfl, (Res.r1 (show RV _ _ _ (.tmp 4) v from by exact rfl))⟩
    have hyy : xs = xs.filter (fun x => !p x) := (filter_none hfi).symm
    replace M := M.rechunk 1 (c' := own 85 5 v ((xs.filter fun x => !p x).length) ((xs.filter fun x => !p x).flatMap leaseE)) rfl (congrArg (fun z => own 85 5 v z.length (z.flatMap leaseE)) hyy)
    replace M : Mem _ _ _ [C xs.length q1_, own 85 5 v ((xs.filter fun x => !p x).length) ((xs.filter fun x => !p x).flatMap leaseE)] [] _ := M
    exact ⟨_, _, rfl, M.close [1, 0] rfl (by decide) trivial⟩
  ·
    rw [(ixF_some hfi).1]
    rw [(ixF_some hfi).2] at M
    obtain ⟨hi0, ⟨x0_, hx0, hp0⟩, hb0⟩ := findIdx_some_at hfi
    replace M : Mem _ _ _ [C (i0_ + 1) q1_, own 85 5 v xs.length (xs.flatMap leaseE)] [] _ := M
    refine WL.step (v := (Value.int .i64 ↑i0_)) rfl (Step.assign rfl) ?_
    refine WL.nil ?_
    refine W.seq' ?_
    refine W.seq' ?_
    refine W.region rfl ?_
    refine WL.step (v := (Value.int .i64 ↑i0_)) rfl (Step.move rfl) ?_
    refine WL.step (v := (Value.bool ((↑i0_ : Int) == (-1 : Int)))) rfl (Step.pure (by kernel_rfl)) ?_
    refine WL.nil ?_
    refine W.cond (t := (↑i0_ : Int) == (-1 : Int)) rfl (fun h4 => ?_) (fun h4 => ?_)
    ·
      have h4p : (↑i0_ : Int) = (-1 : Int) := by simpa using h4
      omega
    ·
      have h4p : ¬ (↑i0_ : Int) = (-1 : Int) := by simpa using h4
      refine W.skip ?_
      refine W.seq' ?_
      refine W.seq' ?_
      refine W.region rfl ?_
      refine WL.step (v := (Value.int .i64 ↑i0_)) rfl (Step.move rfl) ?_
      refine WL.step (v := (Value.int .i64 (↑i0_ + 1))) rfl (Step.add rfl rfl (wrap_i64 (by omega))) ?_
      refine WL.step (v := (Value.int .i64 (↑i0_ + 1))) rfl (Step.assign rfl) ?_
      refine WL.nil ?_
      refine W.block ?_
      replace M := M.sel (L' := [own 85 5 v xs.length (xs.flatMap leaseE), C (i0_ + 1) q1_]) [1, 0] rfl (by decide)
      replace M : Mem _ _ _ [own 85 5 v xs.length (xs.flatMap leaseE), C (i0_ + 1) q1_] [] _ := M
      refine W.loop (fun kk ρ w' => ∃ (j_ : Nat) (i_ : Nat) (ys_ : List Lease) (q_ : ι), ((j_ ≤ xs.length) ∧ (i_ < j_) ∧ (ys_.length = xs.length) ∧ (ys_.take i_ = (xs.take j_).filter (fun x => !p x)) ∧ (ys_.drop j_ = xs.drop j_) ∧ kk = xs.length - j_) ∧ ρ.has [(0, v), (1, f), (4, (Value.slice none 0 0)), (5, (Value.int .i64 ↑i_)), (6, (Value.int .i64 ↑j_))] ∧ Mem G X w [own 85 5 v ys_.length (ys_.flatMap leaseE), C j_ q_] []  w') _ ⟨i0_ + 1, i0_, xs, q1_, ⟨(by omega), (by omega), rfl, (filter_take_hit hb0 hx0 hp0), rfl, rfl⟩, ⟨rfl, rfl, rfl, rfl, rfl, rfl, rfl⟩, M⟩ ?_
      rintro _ ρ6 w5 ⟨j_, i_, ys_, q_, ⟨hi7, hi8, hi9, hi10, hi11, rfl⟩, hρ, M⟩
      obtain ⟨ρ6, rfl⟩ := hρ.know
      clear hρ
      obtain ⟨hI1, hI2, hI3, hI4, hI5⟩ : j_ ≤ xs.length ∧ i_ < j_ ∧ ys_.length = xs.length ∧ ys_.take i_ = (xs.take j_).filter (fun x => !p x) ∧ ys_.drop j_ = xs.drop j_ := ⟨hi7, hi8, hi9, hi10, hi11⟩
      refine W.seq' ?_
      refine W.seq' ?_
      refine W.region rfl ?_
      refine WL.step (v := (Value.int .i64 ↑j_)) rfl (Step.move rfl) ?_
      refine WL.step (v := v) rfl (Step.move rfl) ?_
      refine WL.step (v := (Value.int .i64 ↑ys_.length)) rfl (Step.lenSl Try.un100 rfl (own_slAt (M.chunk 0 rfl).inv)) ?_
      refine WL.step (v := (Value.bool (decide ((↑j_ : Int) < (↑ys_.length : Int))))) rfl (Step.pure (by kernel_rfl)) ?_
      refine WL.nil ?_
      refine W.cond (t := decide ((↑j_ : Int) < (↑ys_.length : Int))) rfl (fun h12 => ?_) (fun h12 => ?_)
      ·
        have h12p := of_decide_eq_true h12
        refine W.skip ?_
        refine W.seq' ?_
        refine W.block ?_
        refine W.seq' ?_
        refine W.region rfl ?_
        refine WL.step (v := v) rfl (Step.move rfl) ?_
        refine WL.step (v := (Value.int .i64 ↑j_)) rfl (Step.move rfl) ?_
        obtain ⟨cap14, hb13⟩ := SlAt.base (own_slAt (M.chunk 0 rfl).inv) (by omega)
        obtain ⟨x15, hx15⟩ := elem_of_lt (xs := ys_) (i := j_) (by omega)
        have hxx := del_elem hI5 hx15
        refine WL.step (v := (Value.pointer (some ⟨(sBlk v), sOff v + j_ * 5, none⟩))) rfl (Step.indexAddr (i := j_) (Try.un100).run Try.el85.sized rfl rfl (by omega) hb13 (by omega)) ?_
        refine WL.step (v := (Value.agg #[(Value.int .u64 x15.id), (Value.int .i64 x15.owner), (Value.int .u64 x15.epoch), (Value.int .u64 x15.till), (Value.bool x15.cursor)])) rfl (Step.loadEN (k := 0) (cs' := [(Value.int .u64 x15.id), (Value.int .i64 x15.owner), (Value.int .u64 x15.epoch), (Value.int .u64 x15.till), (Value.bool x15.cursor)]) Try.ag85 (flat_ec (own_slAt (M.chunk 0 rfl).inv) hx15 leaseE_len) (by decide) rfl rfl rfl) ?_
        refine WL.alloc (c := #[(Value.int .u64 0), (Value.int .i64 0), (Value.int .u64 0), (Value.int .u64 0), (Value.bool false)]) M rfl Try.el85.zero rfl (fun b16 w17 hb16 M => ?_)
        refine WL.store (v := (Value.agg #[(Value.int .u64 x15.id), (Value.int .i64 x15.owner), (Value.int .u64 x15.epoch), (Value.int .u64 x15.till), (Value.bool x15.cursor)])) (cs := [(Value.int .u64 x15.id), (Value.int .i64 x15.owner), (Value.int .u64 x15.epoch), (Value.int .u64 x15.till), (Value.bool x15.cursor)]) (c' := #[(Value.int .u64 x15.id), (Value.int .i64 x15.owner), (Value.int .u64 x15.epoch), (Value.int .u64 x15.till), (Value.bool x15.cursor)]) M 0 rfl rfl Try.el85.sized rfl rfl rfl rfl (Nat.le_of_ble_eq_true rfl) (cel_cons rfl (cel_cons rfl (cel_cons rfl (cel_cons rfl (cel_cons rfl cel_nil))))) rfl rfl (fun w18 M => ?_)
        refine WL.nil ?_
        refine W.seq' ?_
        refine W.region rfl ?_
        refine WL.step (v := f) rfl (Step.move rfl) ?_
        refine WL.step (v := (Value.agg #[(Value.int .u64 x15.id), (Value.int .i64 x15.owner), (Value.int .u64 x15.epoch), (Value.int .u64 x15.till), (Value.bool x15.cursor)])) rfl (Step.loadN Try.ag85 rfl (M.blk 0 rfl) (Nat.le_of_ble_eq_true rfl) rfl) ?_
        refine WL.callV rfl rfl rfl (hf j_ q_ x15 _ hxx (M.enterW (C := [C j_ q_]) (D := [blk b16 (.cells #[(Value.int .u64 x15.id), (Value.int .i64 x15.owner), (Value.int .u64 x15.epoch), (Value.int .u64 x15.till), (Value.bool x15.cursor)] 85), own 85 5 v ys_.length (ys_.flatMap leaseE)]) [2, 0, 1] rfl (by decide) trivial)) ?_
        rintro _ w19 ⟨rfl, q20, m⟩
        replace M := M.leaveW (C := [C j_ q_]) (D := [blk b16 (.cells #[(Value.int .u64 x15.id), (Value.int .i64 x15.owner), (Value.int .u64 x15.epoch), (Value.int .u64 x15.till), (Value.bool x15.cursor)] 85), own 85 5 v ys_.length (ys_.flatMap leaseE)]) [2, 0, 1] rfl (by decide) m
        replace M : Mem _ _ _ [C (j_ + 1) q20, blk b16 (.cells #[(Value.int .u64 x15.id), (Value.int .i64 x15.owner), (Value.int .u64 x15.epoch), (Value.int .u64 x15.till), (Value.bool x15.cursor)] 85), own 85 5 v ys_.length (ys_.flatMap leaseE)] [] _ := M
        refine WL.step (v := (Value.bool (!(p x15)))) rfl (Step.pure (by kernel_rfl)) ?_
        refine WL.nil ?_
        refine W.cond (t := !(p x15)) rfl (fun h21 => ?_) (fun h21 => ?_)
        ·
          refine W.seq' ?_
          refine W.region rfl ?_
          refine WL.step (v := v) rfl (Step.move rfl) ?_
          refine WL.step (v := (Value.int .i64 ↑i_)) rfl (Step.move rfl) ?_
          refine WL.step (v := (Value.agg #[(Value.int .u64 x15.id), (Value.int .i64 x15.owner), (Value.int .u64 x15.epoch), (Value.int .u64 x15.till), (Value.bool x15.cursor)])) rfl (Step.loadN Try.ag85 rfl (M.blk 1 rfl) (Nat.le_of_ble_eq_true rfl) rfl) ?_
          obtain ⟨x22, hx22⟩ := elem_of_lt (xs := ys_) (i := i_) (by omega)
          refine WL.step (v := (Value.pointer (some ⟨(sBlk v), sOff v + i_ * 5, none⟩))) rfl (Step.indexAddr (i := i_) (Try.un100).run Try.el85.sized rfl rfl (by omega) hb13 (by omega)) ?_
          obtain ⟨pre23, post24, hcs25, hpre26, hback27⟩ := flat_open leaseE_len hx22
          replace M := M.rechunk 2 (c' := own 85 5 v ys_.length (pre23 ++ ([(Value.int .u64 x22.id), (Value.int .i64 x22.owner), (Value.int .u64 x22.epoch), (Value.int .u64 x22.till), (Value.bool x22.cursor)] ++ post24))) rfl (by rw [hcs25]; rfl)
          replace M : Mem _ _ _ [C (j_ + 1) q20, blk b16 (.cells #[(Value.int .u64 x15.id), (Value.int .i64 x15.owner), (Value.int .u64 x15.epoch), (Value.int .u64 x15.till), (Value.bool x15.cursor)] 85), own 85 5 v ys_.length (pre23 ++ ([(Value.int .u64 x22.id), (Value.int .i64 x22.owner), (Value.int .u64 x22.epoch), (Value.int .u64 x22.till), (Value.bool x22.cursor)] ++ post24))] [] _ := M
          refine WL.act rfl (M.storeAt (cells := [(Value.int .u64 x22.id), (Value.int .i64 x22.owner), (Value.int .u64 x22.epoch), (Value.int .u64 x22.till), (Value.bool x22.cursor)]) (cells' := [(Value.int .u64 x15.id), (Value.int .i64 x15.owner), (Value.int .u64 x15.epoch), (Value.int .u64 x15.till), (Value.bool x15.cursor)]) (new := [(Value.int .u64 x15.id), (Value.int .i64 x15.owner), (Value.int .u64 x15.epoch), (Value.int .u64 x15.till), (Value.bool x15.cursor)]) (k := 0) 2 rfl hpre26 Try.el85.sized rfl rfl rfl (cel_cons rfl (cel_cons rfl (cel_cons rfl (cel_cons rfl (cel_cons rfl cel_nil))))) (by first | omega | (simp only [List.length_set, List.length_append, List.length_cons, List.length_nil]; omega)) (Nat.le_of_ble_eq_true rfl) rfl rfl) ?_
          rintro w28 ⟨M, -⟩
          replace M : Mem _ _ _ [C (j_ + 1) q20, blk b16 (.cells #[(Value.int .u64 x15.id), (Value.int .i64 x15.owner), (Value.int .u64 x15.epoch), (Value.int .u64 x15.till), (Value.bool x15.cursor)] 85), own 85 5 v ys_.length (pre23 ++ ([(Value.int .u64 x15.id), (Value.int .i64 x15.owner), (Value.int .u64 x15.epoch), (Value.int .u64 x15.till), (Value.bool x15.cursor)] ++ post24))] [] _ := M
          refine WL.nil ?_
          refine W.region rfl ?_
          refine WL.step (v := (Value.int .i64 ↑i_)) rfl (Step.move rfl) ?_
          refine WL.step (v := (Value.int .i64 (↑i_ + 1))) rfl (Step.add rfl rfl (wrap_i64 (by omega))) ?_
          refine WL.step (v := (Value.int .i64 (↑i_ + 1))) rfl (Step.assign rfl) ?_
          refine WL.nil ?_
          refine W.region rfl ?_
          refine WL.step (v := (Value.int .i64 ↑j_)) rfl (Step.move rfl) ?_
          refine WL.step (v := (Value.int .i64 (↑j_ + 1))) rfl (Step.add rfl rfl (wrap_i64 (by omega))) ?_
          refine WL.step (v := (Value.int .i64 (↑j_ + 1))) rfl (Step.assign rfl) ?_
          refine WL.nil ?_
          replace M := M.rechunk 2 (c' := own 85 5 v (ys_.length) ((ys_.set i_ x15).flatMap leaseE)) rfl (by rw [← hback27]; rfl)
          replace M := M.rechunk 2 (c' := own 85 5 v ((ys_.set i_ x15).length) ((ys_.set i_ x15).flatMap leaseE)) rfl (by rw [List.length_set])
          replace M : Mem _ _ _ [C (j_ + 1) q20, blk b16 (.cells #[(Value.int .u64 x15.id), (Value.int .i64 x15.owner), (Value.int .u64 x15.epoch), (Value.int .u64 x15.till), (Value.bool x15.cursor)] 85), own 85 5 v ((ys_.set i_ x15).length) ((ys_.set i_ x15).flatMap leaseE)] [] _ := M
          replace M := M.sel (L' := [own 85 5 v ((ys_.set i_ x15).length) ((ys_.set i_ x15).flatMap leaseE), C (j_ + 1) q20]) [2, 0] rfl (by decide)
          exact ⟨_, (by omega), j_ + 1, i_ + 1, ys_.set i_ x15, q20, ⟨(by omega), (by omega), (by rw [List.length_set]; exact hI3), (del_keep hI3 hI4 hxx hI2 (by simpa using h21)), (drop_step_set hI5 hI2), rfl⟩, ⟨rfl, rfl, rfl, rfl, rfl, rfl, rfl⟩, M⟩
        ·
          refine W.skip ?_
          refine W.region rfl ?_
          refine WL.step (v := (Value.int .i64 ↑j_)) rfl (Step.move rfl) ?_
          refine WL.step (v := (Value.int .i64 (↑j_ + 1))) rfl (Step.add rfl rfl (wrap_i64 (by omega))) ?_
          refine WL.step (v := (Value.int .i64 (↑j_ + 1))) rfl (Step.assign rfl) ?_
          refine WL.nil ?_
          replace M := M.sel (L' := [own 85 5 v ys_.length (ys_.flatMap leaseE), C (j_ + 1) q20]) [2, 0] rfl (by decide)
          exact ⟨_, (by omega), j_ + 1, i_, ys_, q20, ⟨(by omega), (by omega), hI3, (del_drop hxx hI4 (by simpa using h21)), (drop_step hI5), rfl⟩, ⟨rfl, rfl, rfl, rfl, rfl, rfl, rfl⟩, M⟩
      ·
        have h12p := of_decide_eq_false h12
        refine W.exit ?_
        refine thn_exit ?_
        refine thn_exit ?_
        refine inBlk_hit ?_
        refine W.seq' ?_
        refine W.region rfl ?_
        refine WL.step (v := v) rfl (Step.move rfl) ?_
        refine WL.step (v := (Value.int .i64 ↑i_)) rfl (Step.move rfl) ?_
        have hsh29 := SlAt.shp (own_slAt (M.chunk 0 rfl).inv)
        have hsh29c := hsh29
        obtain ⟨_, _, hsh29l, hsh29m⟩ := hsh29c
        refine WL.step (v := (vSlice 5 i_ ys_.length (vCap v) v)) rfl (Step.sliceFromP (l := i_) Try.un100 Try.el85.sized rfl rfl (by omega) hsh29 (by omega)) ?_
        refine WL.act rfl (M.clearCutF leaseE_len (k := i_) 0 rfl Try.un100 Try.el85 rfl (cel_cons rfl (cel_cons rfl (cel_cons rfl (cel_cons rfl (cel_cons rfl cel_nil))))) rfl (by omega) (by omega)) ?_
        rintro w30 ⟨M, -⟩
        replace M : Mem _ _ _ [own 85 5 (vTake i_ v) ((ys_.take i_).length) ((ys_.take i_).flatMap leaseE), C j_ q_] [] _ := M
        refine WL.nil ?_
        refine W.seq' ?_
        refine W.region rfl ?_
        refine WL.step (v := v) rfl (Step.move rfl) ?_
        refine WL.step (v := (Value.int .i64 ↑i_)) rfl (Step.move rfl) ?_
        refine WL.step (v := (vTake i_ v)) rfl (Step.sliceToP (h := i_) Try.un100 Try.el85.sized rfl rfl (by omega) hsh29 (by obtain ⟨_, _, _, _⟩ := hsh29; omega)) ?_
        refine WL.step (v := (vTake i_ v)) rfl (Step.assign rfl) ?_
        refine WL.nil ?_
        refine W.ret ?_
        refine ⟨.inl rfl, (vTake i_ v), ?_, ?_⟩
        · exact ⟨rfl, (Res.r1 (show RV _ _ _ (.tmp 4) (vTake i_ v) from by exact rfl))⟩
        have hjj : j_ = xs.length := by omega
        rw [hjj] at M
        have hyy : ys_.take i_ = xs.filter (fun x => !p x) := (by rw [hI4, hjj, List.take_length])
        replace M := M.rechunk 0 (c' := own 85 5 (vTake i_ v) ((xs.filter fun x => !p x).length) ((xs.filter fun x => !p x).flatMap leaseE)) rfl (congrArg (fun z => own 85 5 (vTake i_ v) z.length (z.flatMap leaseE)) hyy)
        replace M : Mem _ _ _ [own 85 5 (vTake i_ v) ((xs.filter fun x => !p x).length) ((xs.filter fun x => !p x).flatMap leaseE), C xs.length q_] [] _ := M
        exact ⟨_, _, rfl, M.close [0, 1] rfl (by decide) trivial⟩

theorem delete_lease {G X : Nat → Prop} {w : World} (v : Value) (xs : List Lease) (a : Int) (b : Int)  (hab : 0 ≤ a ∧ a < b ∧ b ≤ xs.length) (M : Mem G X w [own 85 5 v xs.length (xs.flatMap leaseE)] [] w) : Rets Try.prog 102 #[v, (Value.int .i64 a), (Value.int .i64 b)] w fun r w' => ∃ (v' : Value), r = v' ∧ Mem G X w [own 85 5 v' ((xs.take (Int.toNat a) ++ xs.drop (Int.toNat b)).length) ((xs.take (Int.toNat a) ++ xs.drop (Int.toNat b)).flatMap leaseE)] [] w' := by
  refine Rets.enter 33 _ Try.func102 rfl Try.ntmps102 Try.results102 (by simp) ?_
  have sl1 : IsSl v := SlAt.isSl (own_slAt (Mem.chunk M 0 rfl).inv)
  have hle2 := SlAt.le' (own_slAt (Mem.chunk M 0 rfl).inv)
  have hcl : (xs.take a.toNat ++ xs.drop b.toNat).length = a.toNat + (xs.length - b.toNat) := by (simp; omega)
  have hsv := (own_slAt (M.chunk 0 rfl).inv).shp
  have hcv : vCap (vTake (a.toNat + (xs.length - b.toNat)) v) = vCap v := Shp.cap hsv
  obtain ⟨_, _, hsv1, hsv2⟩ := id hsv
  refine W.seq' ?_
  refine W.region rfl ?_
  refine WL.step (v := (Value.slice none 0 0)) rfl (Step.assign rfl) ?_
  refine WL.nil ?_
  refine W.seq' ?_
  refine W.region rfl ?_
  refine WL.step (v := v) rfl (Step.move rfl) ?_
  refine WL.step (v := (Value.int .i64 a)) rfl (Step.move rfl) ?_
  refine WL.step (v := (Value.int .i64 b)) rfl (Step.move rfl) ?_
  refine WL.step (v := v) rfl (Step.move rfl) ?_
  refine WL.step (v := (Value.int .i64 ↑xs.length)) rfl (Step.lenSl Try.un100 rfl (own_slAt (M.chunk 0 rfl).inv)) ?_
  have hsh3 := SlAt.shp (own_slAt (M.chunk 0 rfl).inv)
  have hsh3c := hsh3
  obtain ⟨_, _, hsh3l, hsh3m⟩ := hsh3c
  refine WL.step (v := (vSlice 5 a.toNat b.toNat xs.length v)) rfl (Step.slice4P (l := a.toNat) (h := b.toNat) (m := xs.length) Try.un100 Try.el85.sized rfl rfl (by omega) rfl (by omega) rfl (by omega) hsh3 (by omega) (by omega) (by obtain ⟨_, _, _, _⟩ := hsh3; omega)) ?_
  refine WL.nil ?_
  refine W.seq' ?_
  refine W.seq' ?_
  refine W.region rfl ?_
  refine WL.step (v := (Value.int .i64 a)) rfl (Step.move rfl) ?_
  refine WL.step (v := (Value.int .i64 b)) rfl (Step.move rfl) ?_
  refine WL.step (v := (Value.bool ((a : Int) == (b : Int)))) rfl (Step.pure (by kernel_rfl)) ?_
  refine WL.nil ?_
  refine W.cond (t := (a : Int) == (b : Int)) rfl (fun h4 => ?_) (fun h4 => ?_)
  ·
    have h4p : (a : Int) = (b : Int) := by simpa using h4
    omega
  ·
    have h4p : ¬ (a : Int) = (b : Int) := by simpa using h4
    refine W.skip ?_
    refine W.seq' ?_
    refine W.region rfl ?_
    refine WL.step (v := v) rfl (Step.move rfl) ?_
    refine WL.step (v := (Value.int .i64 ↑xs.length)) rfl (Step.lenSl Try.un100 rfl (own_slAt (M.chunk 0 rfl).inv)) ?_
    refine WL.step (v := (Value.int .i64 ↑xs.length)) rfl (Step.assign rfl) ?_
    refine WL.nil ?_
    refine W.seq' ?_
    refine W.drawn M [0, 1, 2, 3, 4, 5, 6, 7] [6] [] [] [] (List.Sublist.cons _ List.Sublist.slnil) (fun _ h => h) Try.mixed (by kernel_rfl) ?_
    refine TW.pure (v := v) rfl (by decide) (by decide) rfl (fun w => (Step.move rfl)) ?_
    refine TW.pure (v := (Value.int .i64 a)) rfl (by decide) (by decide) rfl (fun w => (Step.move rfl)) ?_
    refine TW.pure (v := (vTake a.toNat v)) rfl (by decide) (by decide) rfl (fun w => (Step.sliceToP (h := a.toNat) Try.un100 Try.el85.sized rfl rfl (by omega) hsh3 (by obtain ⟨_, _, _, _⟩ := hsh3; omega))) ?_
    refine TW.pure (v := v) rfl (by decide) (by decide) rfl (fun w => (Step.move rfl)) ?_
    refine TW.pure (v := (Value.int .i64 b)) rfl (by decide) (by decide) rfl (fun w => (Step.move rfl)) ?_
    refine TW.pure (v := (vSlice 5 b.toNat xs.length (vCap v) v)) rfl (by decide) (by decide) rfl (fun w => (Step.sliceFromP (l := b.toNat) Try.un100 Try.el85.sized rfl rfl (by omega) hsh3 (by omega))) ?_
    refine TW.act (c' := own 85 5 (vTake (a.toNat + (xs.length - b.toNat)) v) ((xs.take a.toNat ++ xs.drop b.toNat).length) ((xs.take a.toNat ++ xs.drop b.toNat).flatMap leaseE)) 0 rfl rfl (by decide) rfl (List.Sublist.cons _ List.Sublist.slnil) (fun r h => h) (fun A w M => M.appendCutF leaseE_len (a := a.toNat) (b := b.toNat) 1 rfl Try.un100 Try.el85 rfl rfl (by omega) (by omega) (by omega) leaseE_cel) ?_
    refine TW.pure (v := (vTake (a.toNat + (xs.length - b.toNat)) v)) rfl (by decide) (by decide) rfl (fun w => (Step.assign rfl)) ?_
    refine TW.done (fun w5 M => ?_)
    refine W.seq' ?_
    refine W.region rfl ?_
    refine WL.step (v := (vTake (a.toNat + (xs.length - b.toNat)) v)) rfl (Step.move rfl) ?_
    refine WL.step (v := (vTake (a.toNat + (xs.length - b.toNat)) v)) rfl (Step.move rfl) ?_
    refine WL.step (v := (Value.int .i64 (↑((xs.take a.toNat ++ xs.drop b.toNat).length)))) rfl (Step.lenSl Try.un100 rfl (own_slAt (M.chunk 0 rfl).inv)) ?_
    refine WL.step (v := (Value.int .i64 ↑xs.length)) rfl (Step.move rfl) ?_
    have hsh6 := SlAt.shp (own_slAt (M.chunk 0 rfl).inv)
    have hsh6c := hsh6
    obtain ⟨_, _, hsh6l, hsh6m⟩ := hsh6c
    refine WL.step (v := (vSlice 5 ((xs.take a.toNat ++ xs.drop b.toNat).length) xs.length (vCap (vTake (a.toNat + (xs.length - b.toNat)) v)) (vTake (a.toNat + (xs.length - b.toNat)) v))) rfl (Step.sliceLHP (l := (xs.take a.toNat ++ xs.drop b.toNat).length) (h := xs.length) Try.un100 Try.el85.sized rfl rfl (by omega) rfl (by omega) hsh6 (by omega) (by obtain ⟨_, _, _, _⟩ := hsh6; omega)) ?_
    refine WL.act rfl (M.clearTailF leaseE_len (l := (xs.take a.toNat ++ xs.drop b.toNat).length) (h := xs.length) 0 rfl Try.un100 Try.el85 rfl (cel_cons rfl (cel_cons rfl (cel_cons rfl (cel_cons rfl (cel_cons rfl cel_nil))))) rfl (by simp only [List.length_append, List.length_take, List.length_drop]; omega) (by omega) (by omega) (Nat.le_refl _)) ?_
    rintro w7 ⟨M, -⟩
    replace M : Mem _ _ _ [own 85 5 (vTake (a.toNat + (xs.length - b.toNat)) v) ((xs.take a.toNat ++ xs.drop b.toNat).length) ((xs.take a.toNat ++ xs.drop b.toNat).flatMap leaseE)] [] _ := M
    refine WL.nil ?_
    refine W.seq' ?_
    refine W.region rfl ?_
    refine WL.step (v := (vTake (a.toNat + (xs.length - b.toNat)) v)) rfl (Step.move rfl) ?_
    refine WL.step (v := (vTake (a.toNat + (xs.length - b.toNat)) v)) rfl (Step.assign rfl) ?_
    refine WL.nil ?_
    refine W.ret ?_
    refine ⟨.inl rfl, (vTake (a.toNat + (xs.length - b.toNat)) v), ?_, ?_⟩
    · exact ⟨rfl, (Res.r1 (show RV _ _ _ (.tmp 6) (vTake (a.toNat + (xs.length - b.toNat)) v) from by exact rfl))⟩
    have e8 : xs.take (Int.toNat a) ++ xs.drop (Int.toNat b) = xs.take a.toNat ++ xs.drop b.toNat := by
      rfl
    replace M := M.rechunk 0 (c' := own 85 5 (vTake (a.toNat + (xs.length - b.toNat)) v) ((xs.take (Int.toNat a) ++ xs.drop (Int.toNat b)).length) ((xs.take (Int.toNat a) ++ xs.drop (Int.toNat b)).flatMap leaseE)) rfl (congrArg (fun z => own 85 5 (vTake (a.toNat + (xs.length - b.toNat)) v) z.length (z.flatMap leaseE)) e8.symm)
    replace M : Mem _ _ _ [own 85 5 (vTake (a.toNat + (xs.length - b.toNat)) v) ((xs.take (Int.toNat a) ++ xs.drop (Int.toNat b)).length) ((xs.take (Int.toNat a) ++ xs.drop (Int.toNat b)).flatMap leaseE)] [] _ := M
    refine ⟨(vTake (a.toNat + (xs.length - b.toNat)) v), ?_, M.close [0] rfl (by decide) trivial⟩
    rfl
end Go.Proofs
