/- Proved here: lemmas and walks on which the claim stands (part 4 of 6). No condition. -/
import Derived.Test.YtnlnpfpfggbheaaSn3
set_option linter.all false
set_option maxRecDepth 100000
namespace Go.Proofs
open Go Tp
theorem Try.un191 : Und Try.prog 191 (.slice 22) := by unfold Und; kernel_rfl
theorem Try.un193 : Und Try.prog 193 (.slice 97) := by unfold Und; kernel_rfl
theorem Try.un195 : Und Try.prog 195 (.slice 96) := by unfold Und; kernel_rfl
theorem Try.el22 : Elem Try.prog 22 vZ 1 24 := Elem.mk (by kernel_rfl)
theorem Try.el96 : Elem Try.prog 96 vZ 1 24 := Elem.mk (by kernel_rfl)
theorem Try.el97 : Elem Try.prog 97 vZ 1 24 := Elem.mk (by kernel_rfl)
theorem Try.en134 : Enters Try.prog 134 := fun _ _ => by kernel_rfl
theorem Try.en135 : Enters Try.prog 135 := fun _ _ => by kernel_rfl
theorem Try.en136 : Enters Try.prog 136 := fun _ _ => by kernel_rfl
theorem grow_str {G : Nat → Prop} {w : World} (n : Nat)  (hn : n ≤ 1000000) (M : Mem G (fun _ => False) w [] [] w) : Rets Try.prog 134 #[vZ, (vI ↑n)] w fun r w' => ∃ (v' : Value), r = v' ∧ Mem G (fun _ => False) w [oS v' ([] : List ByteArray)] [] w' := by
 refine Rets.enter 27 _ Try.func134 rfl Try.ntmps134 Try.results134 (by simp) ?_
 refine wR (wA vZ (WL.nil (W.seq' (wR (wM (vI ↑n) ?_)))))
 refine wP (vB (decide ((↑n : Int) < (0 : Int)))) (WL.nil ?_)
 refine W.cond (t := decide ((↑n : Int) < (0 : Int))) rfl (fun h1 => ?_) (fun h1 => ?_)
 ·
  have h1p := of_decide_eq_true h1
  omega
 ·
  have h1p := of_decide_eq_false h1
  refine W.skip (W.seq' (wR (wM (vI ↑n) (wM vZ (wS (vI 0) rfl (Step.capS Try.un22 rfl shp_nil) ?_)))))
  refine wM vZ (wS (vI 0) rfl (Step.lenS Try.un22 rfl rfl) (wP (vI 0) (wS (vI ↑n) rfl (Step.cast (congrArg (Value.int .i64) (show ((↑n : Int) - 0 : Int) = ↑n by omega)) (Step.sub rfl rfl (wrap_i64 (by omega)))) (wA (vI ↑n) (WL.nil ?_)))))
  refine wR (wM (vI ↑n) (wP (vB (decide ((↑n : Int) > (0 : Int)))) (WL.nil ?_)))
  refine W.cond (t := decide ((↑n : Int) > (0 : Int))) rfl (fun h2 => ?_) (fun h2 => ?_)
  ·
   have h2p := of_decide_eq_true h2
   refine W.region rfl (wM vZ (wM vZ (wS (vI 0) rfl (Step.capS Try.un22 rfl shp_nil) (wS vZ rfl (Step.sliceToP (h := 0) Try.un22 Try.el9.sized rfl rfl rfl shp_nil (Nat.zero_le _)) (wM (vI ↑n) ?_)))))
   refine WL.does rfl (M.nilZeros (k := n) Try.un22 Try.un3 Try.el9 rfl (by decide) rfl rfl (by omega) (by simp only [maxLen]; omega) (by omega)) ?_
   rintro v3 w4 ⟨junk5, hjunk5, -, M⟩
   have sl6 : IsSl v3 := SlAt.isSl (own_slAt (M.chunk 0 rfl).inv)
   have hsh7 := (own_slAt (M.chunk 0 rfl).inv).shp
   refine wM vZ (wS (vI 0) rfl (Step.lenS Try.un22 rfl rfl) (wS (vTake 0 v3) rfl (Step.sliceToP (h := 0) Try.un22 Try.el9.sized rfl rfl rfl hsh7 (by obtain ⟨_, _, _, _⟩ := hsh7; omega)) (wA (vTake 0 v3) (WL.nil (wR ?_)))))
   refine wM (vTake 0 v3) (wA (vTake 0 v3) (WL.nil ?_))
   refine W.ret ?_
   refine ⟨.inl rfl, (vTake 0 v3), ?_, ?_⟩
   · exact ⟨rfl, (Res.r1 (show RV _ _ _ (.tmp 4) (vTake 0 v3) from by exact rfl))⟩
   replace M := M.ownTake 0 0 rfl (Nat.zero_le _)
   replace M := M.rechunk 0 (c' := oS (vTake 0 v3) ([] : List ByteArray)) rfl (by simp <;> rfl)
   refine ⟨(vTake 0 v3), ?_, M.close [0] rfl (by decide) trivial⟩
   rfl
  ·
   have h2p := of_decide_eq_false h2
   refine W.skip (wR (wM vZ (wA vZ (WL.nil ?_))))
   refine W.ret ?_
   refine ⟨.inl rfl, vZ, ?_, ?_⟩
   · exact ⟨rfl, (Res.r1 (show RV _ _ _ (.tmp 4) vZ from by exact rfl))⟩
   replace M := M.ownNil 9 1
   refine ⟨vZ, ?_, M.close [0] rfl (by decide) trivial⟩
   rfl
theorem concat_str {G : Nat → Prop} {w : World} (v : Value) (xss : List (List ByteArray))  (hb : sumL xss ≤ 100000) (hbl : xss.length ≤ 100) (M : Mem G (fun _ => False) w [] [RepS (SlsT 1 strE) v xss] w) : Rets Try.prog 127 #[v] w fun r w' => ∃ (v' : Value), r = v' ∧ Mem G (fun _ => False) w [oS v' xss.flatten] [] w' := by
 refine Rets.enter 36 _ Try.func127 rfl Try.ntmps127 Try.results127 (by simp) ?_
 have hle1 := RepS.le' (M.rep 0 rfl)
 have sl2 : IsSl v := RepS.isSl (Mem.rep M 0 rfl)
 obtain ⟨cs3, M⟩ := M.openS 0 rfl
 refine wR (wA vZ (WL.nil (wR (wA (vI 0) (WL.nil ?_)))))
 refine W.seq' (wR (wM v (wS (vI ↑xss.length) rfl (Step.lenSl Try.un191 rfl (M.rep 0 rfl)) (wM (vI 0) (WL.nil ?_)))))
 refine W.block ?_
 refine W.loop (fun kk ρ w' => ∃ (i_ : Nat) (s_ : Nat), ((i_ ≤ xss.length) ∧ (s_ = sumL (xss.take i_)) ∧ kk = xss.length - i_) ∧ ρ.has [(0, v), (2, vZ), (3, (vI ↑s_)), (9, v), (10, (vI ↑xss.length)), (11, (vI ↑i_))] ∧ Mem G (fun _ => False) w [] [SlAt 1 v xss.length cs3, RepL (SlsT 1 strE) cs3 xss, RepS (SlsT 1 strE) v xss]  w') _ ⟨0, 0, ⟨(Nat.zero_le _), rfl, rfl⟩, ⟨rfl, rfl, rfl, rfl, rfl, rfl, rfl, rfl⟩, M⟩ ?_
 rintro _ ρ5 w4 ⟨i_, s_, ⟨hi6, hi7, rfl⟩, hρ, M⟩
 obtain ⟨ρ5, rfl⟩ := hρ.know
 clear hρ
 have hsl_ := sumL_le xss i_
 refine wR (wP (vB (decide ((↑i_ : Int) < (↑xss.length : Int)))) (WL.nil (W.seq' ?_)))
 refine W.cond (t := decide ((↑i_ : Int) < (↑xss.length : Int))) rfl (fun h8 => ?_) (fun h8 => ?_)
 ·
  have h8p := of_decide_eq_true h8
  refine W.skip (W.seq' (W.block (wR ?_)))
  obtain ⟨cap10, hb9⟩ := SlAt.base (M.rep 0 rfl) (by omega)
  obtain ⟨a11, ha11⟩ := elem_of_lt (xs := xss) (i := i_) (by omega)
  obtain ⟨lv12, M⟩ := sls_open M 0 1 rfl rfl rfl ha11
  have sl13 : IsSl lv12 := SlAt.isSl (Mem.rep M 1 rfl)
  have hsn_ := sumL_snoc ha11
  have hsm_ := sumL_le xss (i_ + 1)
  refine wS (vQ v i_ 1) rfl (sX i_ Try.un191 Try.el22 rfl rfl hb9) (wS lv12 rfl (Step.loadE (k := 0) Try.sc22 (M.rep 0 rfl : EC _ _ _ _ _) (by decide) rfl rfl) (wA lv12 (WL.nil (wR (wM (vI ↑s_) ?_)))))
  refine wM lv12 (wS (vI ↑a11.length) rfl (Step.lenSl Try.un22 rfl (M.rep 1 rfl)) (wS (vI (↑s_ + ↑a11.length)) rfl (Step.add rfl rfl (wrap_i64 (by omega))) (wA (vI (↑s_ + ↑a11.length)) (WL.nil (wR ?_)))))
  refine wM (vI (↑s_ + ↑a11.length)) (wP (vB (decide ((↑s_ + ↑a11.length : Int) < (0 : Int)))) (WL.nil ?_))
  refine W.cond (t := decide ((↑s_ + ↑a11.length : Int) < (0 : Int))) rfl (fun h14 => ?_) (fun h14 => ?_)
  ·
   have h14p := of_decide_eq_true h14
   omega
  ·
   have h14p := of_decide_eq_false h14
   refine W.skip (W.region rfl (wS (vI (↑i_ + 1)) rfl (Step.add rfl rfl (wrap_i64 (by omega))) (wM (vI (↑i_ + 1)) (WL.nil ?_))))
   replace M := M.sub (List.Sublist.refl _) (R' := [SlAt 1 v xss.length cs3, RepL (SlsT 1 strE) cs3 xss, RepS (SlsT 1 strE) v xss]) (fun r h => (List.mem_cons_of_mem _ (List.mem_cons_of_mem _ h)))
   exact ⟨_, (by omega), i_ + 1, s_ + a11.length, ⟨(by omega), (by rw [sumL_snoc ha11]; omega), rfl⟩, ⟨rfl, rfl, rfl, rfl, rfl, rfl, rfl, rfl⟩, M⟩
 ·
  have h8p := of_decide_eq_false h8
  refine W.exit ?_
  refine thn_exit ?_
  refine thn_exit ?_
  refine inBlk_hit ?_
  refine wR (wM (vI ↑s_) ?_)
  refine WL.callX rfl (grow_str s_ (by omega) (M.enterW0 trivial)) (CallsF.func Try.en134 rfl) ?_
  rintro v15 w16 ⟨_, rfl, m⟩
  replace M := M.leaveW0 m
  clear m
  have sl17 : IsSl v15 := SlAt.isSl (own_slAt (Mem.chunk M 0 rfl).inv)
  have hle18 := SlAt.le' (own_slAt (Mem.chunk M 0 rfl).inv)
  refine wA v15 (WL.nil (W.seq' (wR (wM v (wS (vI ↑xss.length) rfl (Step.lenSl Try.un191 rfl (M.rep 0 rfl)) ?_)))))
  refine wM (vI 0) (WL.nil (W.block ?_))
  replace M := M.rechunk 0 (c' := oS v15 ((xss.take 0).flatten)) rfl rfl
  replace M := M.sel (L' := [oS v15 ((xss.take 0).flatten)]) [0] rfl (by decide)
  refine W.loop (fun kk ρ w' => ∃ (j_ : Nat) (acc : Value), ((j_ ≤ xss.length) ∧ kk = xss.length - j_) ∧ ρ.has [(2, vZ), (6, acc), (25, v), (26, (vI ↑xss.length)), (27, (vI ↑j_))] ∧ Mem G (fun _ => False) w [oS acc ((xss.take j_).flatten)] [SlAt 1 v xss.length cs3, RepL (SlsT 1 strE) cs3 xss, RepS (SlsT 1 strE) v xss]  w') _ ⟨0, _, ⟨(Nat.zero_le _), rfl⟩, ⟨rfl, rfl, rfl, rfl, rfl, rfl, rfl⟩, M⟩ ?_
  rintro _ ρ20 w19 ⟨j_, acc, ⟨hi21, rfl⟩, hρ, M⟩
  obtain ⟨ρ20, rfl⟩ := hρ.know
  clear hρ
  have sl22 : IsSl acc := SlAt.isSl (own_slAt (M.chunk 0 rfl).inv)
  have hcl_ : (xss.take j_).flatten.length ≤ xss.flatten.length := sumL_le xss j_
  refine wR (wP (vB (decide ((↑j_ : Int) < (↑xss.length : Int)))) (WL.nil (W.seq' ?_)))
  refine W.cond (t := decide ((↑j_ : Int) < (↑xss.length : Int))) rfl (fun h23 => ?_) (fun h23 => ?_)
  ·
   have h23p := of_decide_eq_true h23
   refine W.skip (W.seq' (W.block (wR ?_)))
   obtain ⟨cap25, hb24⟩ := SlAt.base (M.rep 0 rfl) (by omega)
   obtain ⟨a26, ha26⟩ := elem_of_lt (xs := xss) (i := j_) (by omega)
   obtain ⟨lv27, M⟩ := sls_open M 0 1 rfl rfl rfl ha26
   have sl28 : IsSl lv27 := SlAt.isSl (Mem.rep M 1 rfl)
   have hsn_ := sumL_snoc ha26
   have hsm_ := sumL_le xss (j_ + 1)
   refine wS (vQ v j_ 1) rfl (sX j_ Try.un191 Try.el22 rfl rfl hb24) (wS lv27 rfl (Step.loadE (k := 0) Try.sc22 (M.rep 0 rfl : EC _ _ _ _ _) (by decide) rfl rfl) (wA lv27 (WL.nil (W.region rfl (wM acc ?_)))))
   refine wM lv27 ?_
   refine WL.does rfl (M.appendF ((xss.take j_).flatten) a26 (sv := lv27) 0 Try.un22 Try.el9 rfl (by decide) rfl rfl rfl (M.rep 1 rfl) strE_cel (by have := (show (xss.take j_).flatten.length + a26.length ≤ 100000 by unfold sumL at hsn_ hsm_ hb; omega); simp only [maxLen, List.length_nil, List.length_cons, List.length_append]; omega) (by have := (show (xss.take j_).flatten.length + a26.length ≤ 100000 by unfold sumL at hsn_ hsm_ hb; omega); (try simp only [List.length_nil, List.length_cons, List.length_append]); omega)) ?_
   rintro v29 w30 M
   have sl31 : IsSl v29 := SlAt.isSl (own_slAt (M.chunk 0 rfl).inv)
   refine wA v29 (WL.nil (W.region rfl (wS (vI (↑j_ + 1)) rfl (Step.add rfl rfl (wrap_i64 (by omega))) (wM (vI (↑j_ + 1)) (WL.nil ?_)))))
   replace M := M.rechunk 0 (c' := oS v29 ((xss.take (j_ + 1)).flatten)) rfl (by rw [flat_snoc ha26])
   replace M := M.sub (List.Sublist.refl _) (R' := [SlAt 1 v xss.length cs3, RepL (SlsT 1 strE) cs3 xss, RepS (SlsT 1 strE) v xss]) (fun r h => (List.mem_cons_of_mem _ (List.mem_cons_of_mem _ h)))
   exact ⟨_, (by omega), j_ + 1, v29, ⟨(by omega), rfl⟩, ⟨rfl, rfl, rfl, rfl, rfl, rfl, rfl⟩, M⟩
  ·
   have h23p := of_decide_eq_false h23
   refine W.exit ?_
   refine thn_exit ?_
   refine thn_exit ?_
   refine inBlk_hit ?_
   refine wR (wM acc (wA acc (WL.nil ?_)))
   refine W.ret ?_
   refine ⟨.inl rfl, acc, ?_, ?_⟩
   · exact ⟨rfl, (Res.r1 (show RV _ _ _ (.tmp 2) acc from by exact rfl))⟩
   have e32 : xss.flatten = (xss.take j_).flatten := by
    rw [show j_ = xss.length by omega, List.take_length]
   replace M := M.rechunk 0 (c' := oS acc xss.flatten) rfl (congrArg (fun z => own 9 1 acc z.length (z.flatMap strE)) e32.symm)
   refine ⟨acc, ?_, M.close [0] rfl (by decide) trivial⟩
   rfl
theorem grow_int {G : Nat → Prop} {w : World} (n : Nat)  (hn : n ≤ 1000000) (M : Mem G (fun _ => False) w [] [] w) : Rets Try.prog 135 #[vZ, (vI ↑n)] w fun r w' => ∃ (v' : Value), r = v' ∧ Mem G (fun _ => False) w [oI v' ([] : List Int)] [] w' := by
 refine Rets.enter 27 _ Try.func135 rfl Try.ntmps135 Try.results135 (by simp) ?_
 refine wR (wA vZ (WL.nil (W.seq' (wR (wM (vI ↑n) ?_)))))
 refine wP (vB (decide ((↑n : Int) < (0 : Int)))) (WL.nil ?_)
 refine W.cond (t := decide ((↑n : Int) < (0 : Int))) rfl (fun h1 => ?_) (fun h1 => ?_)
 ·
  have h1p := of_decide_eq_true h1
  omega
 ·
  have h1p := of_decide_eq_false h1
  refine W.skip (W.seq' (wR (wM (vI ↑n) (wM vZ (wS (vI 0) rfl (Step.capS Try.un97 rfl shp_nil) ?_)))))
  refine wM vZ (wS (vI 0) rfl (Step.lenS Try.un97 rfl rfl) (wP (vI 0) (wS (vI ↑n) rfl (Step.cast (congrArg (Value.int .i64) (show ((↑n : Int) - 0 : Int) = ↑n by omega)) (Step.sub rfl rfl (wrap_i64 (by omega)))) (wA (vI ↑n) (WL.nil ?_)))))
  refine wR (wM (vI ↑n) (wP (vB (decide ((↑n : Int) > (0 : Int)))) (WL.nil ?_)))
  refine W.cond (t := decide ((↑n : Int) > (0 : Int))) rfl (fun h2 => ?_) (fun h2 => ?_)
  ·
   have h2p := of_decide_eq_true h2
   refine W.region rfl (wM vZ (wM vZ (wS (vI 0) rfl (Step.capS Try.un97 rfl shp_nil) (wS vZ rfl (Step.sliceToP (h := 0) Try.un97 Try.el3.sized rfl rfl rfl shp_nil (Nat.zero_le _)) (wM (vI ↑n) ?_)))))
   refine WL.does rfl (M.nilZeros (k := n) Try.un97 Try.un3 Try.el3 rfl (by decide) rfl rfl (by omega) (by simp only [maxLen]; omega) (by omega)) ?_
   rintro v3 w4 ⟨junk5, hjunk5, -, M⟩
   have sl6 : IsSl v3 := SlAt.isSl (own_slAt (M.chunk 0 rfl).inv)
   have hsh7 := (own_slAt (M.chunk 0 rfl).inv).shp
   refine wM vZ (wS (vI 0) rfl (Step.lenS Try.un97 rfl rfl) (wS (vTake 0 v3) rfl (Step.sliceToP (h := 0) Try.un97 Try.el3.sized rfl rfl rfl hsh7 (by obtain ⟨_, _, _, _⟩ := hsh7; omega)) (wA (vTake 0 v3) (WL.nil (wR ?_)))))
   refine wM (vTake 0 v3) (wA (vTake 0 v3) (WL.nil ?_))
   refine W.ret ?_
   refine ⟨.inl rfl, (vTake 0 v3), ?_, ?_⟩
   · exact ⟨rfl, (Res.r1 (show RV _ _ _ (.tmp 4) (vTake 0 v3) from by exact rfl))⟩
   replace M := M.ownTake 0 0 rfl (Nat.zero_le _)
   replace M := M.rechunk 0 (c' := oI (vTake 0 v3) ([] : List Int)) rfl (by simp <;> rfl)
   refine ⟨(vTake 0 v3), ?_, M.close [0] rfl (by decide) trivial⟩
   rfl
  ·
   have h2p := of_decide_eq_false h2
   refine W.skip (wR (wM vZ (wA vZ (WL.nil ?_))))
   refine W.ret ?_
   refine ⟨.inl rfl, vZ, ?_, ?_⟩
   · exact ⟨rfl, (Res.r1 (show RV _ _ _ (.tmp 4) vZ from by exact rfl))⟩
   replace M := M.ownNil 3 1
   refine ⟨vZ, ?_, M.close [0] rfl (by decide) trivial⟩
   rfl
theorem concat_int {G : Nat → Prop} {w : World} (v : Value) (xss : List (List Int))  (hb : sumL xss ≤ 100000) (hbl : xss.length ≤ 100) (M : Mem G (fun _ => False) w [] [RepS (SlsT 1 intE) v xss] w) : Rets Try.prog 128 #[v] w fun r w' => ∃ (v' : Value), r = v' ∧ Mem G (fun _ => False) w [oI v' xss.flatten] [] w' := by
 refine Rets.enter 36 _ Try.func128 rfl Try.ntmps128 Try.results128 (by simp) ?_
 have hle1 := RepS.le' (M.rep 0 rfl)
 have sl2 : IsSl v := RepS.isSl (Mem.rep M 0 rfl)
 obtain ⟨cs3, M⟩ := M.openS 0 rfl
 refine wR (wA vZ (WL.nil (wR (wA (vI 0) (WL.nil ?_)))))
 refine W.seq' (wR (wM v (wS (vI ↑xss.length) rfl (Step.lenSl Try.un193 rfl (M.rep 0 rfl)) (wM (vI 0) (WL.nil ?_)))))
 refine W.block ?_
 refine W.loop (fun kk ρ w' => ∃ (i_ : Nat) (s_ : Nat), ((i_ ≤ xss.length) ∧ (s_ = sumL (xss.take i_)) ∧ kk = xss.length - i_) ∧ ρ.has [(0, v), (2, vZ), (3, (vI ↑s_)), (9, v), (10, (vI ↑xss.length)), (11, (vI ↑i_))] ∧ Mem G (fun _ => False) w [] [SlAt 1 v xss.length cs3, RepL (SlsT 1 intE) cs3 xss, RepS (SlsT 1 intE) v xss]  w') _ ⟨0, 0, ⟨(Nat.zero_le _), rfl, rfl⟩, ⟨rfl, rfl, rfl, rfl, rfl, rfl, rfl, rfl⟩, M⟩ ?_
 rintro _ ρ5 w4 ⟨i_, s_, ⟨hi6, hi7, rfl⟩, hρ, M⟩
 obtain ⟨ρ5, rfl⟩ := hρ.know
 clear hρ
 have hsl_ := sumL_le xss i_
 refine wR (wP (vB (decide ((↑i_ : Int) < (↑xss.length : Int)))) (WL.nil (W.seq' ?_)))
 refine W.cond (t := decide ((↑i_ : Int) < (↑xss.length : Int))) rfl (fun h8 => ?_) (fun h8 => ?_)
 ·
  have h8p := of_decide_eq_true h8
  refine W.skip (W.seq' (W.block (wR ?_)))
  obtain ⟨cap10, hb9⟩ := SlAt.base (M.rep 0 rfl) (by omega)
  obtain ⟨a11, ha11⟩ := elem_of_lt (xs := xss) (i := i_) (by omega)
  obtain ⟨lv12, M⟩ := sls_open M 0 1 rfl rfl rfl ha11
  have sl13 : IsSl lv12 := SlAt.isSl (Mem.rep M 1 rfl)
  have hsn_ := sumL_snoc ha11
  have hsm_ := sumL_le xss (i_ + 1)
  refine wS (vQ v i_ 1) rfl (sX i_ Try.un193 Try.el97 rfl rfl hb9) (wS lv12 rfl (Step.loadE (k := 0) Try.sc97 (M.rep 0 rfl : EC _ _ _ _ _) (by decide) rfl rfl) (wA lv12 (WL.nil (wR (wM (vI ↑s_) ?_)))))
  refine wM lv12 (wS (vI ↑a11.length) rfl (Step.lenSl Try.un97 rfl (M.rep 1 rfl)) (wS (vI (↑s_ + ↑a11.length)) rfl (Step.add rfl rfl (wrap_i64 (by omega))) (wA (vI (↑s_ + ↑a11.length)) (WL.nil (wR ?_)))))
  refine wM (vI (↑s_ + ↑a11.length)) (wP (vB (decide ((↑s_ + ↑a11.length : Int) < (0 : Int)))) (WL.nil ?_))
  refine W.cond (t := decide ((↑s_ + ↑a11.length : Int) < (0 : Int))) rfl (fun h14 => ?_) (fun h14 => ?_)
  ·
   have h14p := of_decide_eq_true h14
   omega
  ·
   have h14p := of_decide_eq_false h14
   refine W.skip (W.region rfl (wS (vI (↑i_ + 1)) rfl (Step.add rfl rfl (wrap_i64 (by omega))) (wM (vI (↑i_ + 1)) (WL.nil ?_))))
   replace M := M.sub (List.Sublist.refl _) (R' := [SlAt 1 v xss.length cs3, RepL (SlsT 1 intE) cs3 xss, RepS (SlsT 1 intE) v xss]) (fun r h => (List.mem_cons_of_mem _ (List.mem_cons_of_mem _ h)))
   exact ⟨_, (by omega), i_ + 1, s_ + a11.length, ⟨(by omega), (by rw [sumL_snoc ha11]; omega), rfl⟩, ⟨rfl, rfl, rfl, rfl, rfl, rfl, rfl, rfl⟩, M⟩
 ·
  have h8p := of_decide_eq_false h8
  refine W.exit ?_
  refine thn_exit ?_
  refine thn_exit ?_
  refine inBlk_hit ?_
  refine wR (wM (vI ↑s_) ?_)
  refine WL.callX rfl (grow_int s_ (by omega) (M.enterW0 trivial)) (CallsF.func Try.en135 rfl) ?_
  rintro v15 w16 ⟨_, rfl, m⟩
  replace M := M.leaveW0 m
  clear m
  have sl17 : IsSl v15 := SlAt.isSl (own_slAt (Mem.chunk M 0 rfl).inv)
  have hle18 := SlAt.le' (own_slAt (Mem.chunk M 0 rfl).inv)
  refine wA v15 (WL.nil (W.seq' (wR (wM v (wS (vI ↑xss.length) rfl (Step.lenSl Try.un193 rfl (M.rep 0 rfl)) ?_)))))
  refine wM (vI 0) (WL.nil (W.block ?_))
  replace M := M.rechunk 0 (c' := oI v15 ((xss.take 0).flatten)) rfl rfl
  replace M := M.sel (L' := [oI v15 ((xss.take 0).flatten)]) [0] rfl (by decide)
  refine W.loop (fun kk ρ w' => ∃ (j_ : Nat) (acc : Value), ((j_ ≤ xss.length) ∧ kk = xss.length - j_) ∧ ρ.has [(2, vZ), (6, acc), (25, v), (26, (vI ↑xss.length)), (27, (vI ↑j_))] ∧ Mem G (fun _ => False) w [oI acc ((xss.take j_).flatten)] [SlAt 1 v xss.length cs3, RepL (SlsT 1 intE) cs3 xss, RepS (SlsT 1 intE) v xss]  w') _ ⟨0, _, ⟨(Nat.zero_le _), rfl⟩, ⟨rfl, rfl, rfl, rfl, rfl, rfl, rfl⟩, M⟩ ?_
  rintro _ ρ20 w19 ⟨j_, acc, ⟨hi21, rfl⟩, hρ, M⟩
  obtain ⟨ρ20, rfl⟩ := hρ.know
  clear hρ
  have sl22 : IsSl acc := SlAt.isSl (own_slAt (M.chunk 0 rfl).inv)
  have hcl_ : (xss.take j_).flatten.length ≤ xss.flatten.length := sumL_le xss j_
  refine wR (wP (vB (decide ((↑j_ : Int) < (↑xss.length : Int)))) (WL.nil (W.seq' ?_)))
  refine W.cond (t := decide ((↑j_ : Int) < (↑xss.length : Int))) rfl (fun h23 => ?_) (fun h23 => ?_)
  ·
   have h23p := of_decide_eq_true h23
   refine W.skip (W.seq' (W.block (wR ?_)))
   obtain ⟨cap25, hb24⟩ := SlAt.base (M.rep 0 rfl) (by omega)
   obtain ⟨a26, ha26⟩ := elem_of_lt (xs := xss) (i := j_) (by omega)
   obtain ⟨lv27, M⟩ := sls_open M 0 1 rfl rfl rfl ha26
   have sl28 : IsSl lv27 := SlAt.isSl (Mem.rep M 1 rfl)
   have hsn_ := sumL_snoc ha26
   have hsm_ := sumL_le xss (j_ + 1)
   refine wS (vQ v j_ 1) rfl (sX j_ Try.un193 Try.el97 rfl rfl hb24) (wS lv27 rfl (Step.loadE (k := 0) Try.sc97 (M.rep 0 rfl : EC _ _ _ _ _) (by decide) rfl rfl) (wA lv27 (WL.nil (W.region rfl (wM acc ?_)))))
   refine wM lv27 ?_
   refine WL.does rfl (M.appendF ((xss.take j_).flatten) a26 (sv := lv27) 0 Try.un97 Try.el3 rfl (by decide) rfl rfl rfl (M.rep 1 rfl) intE_cel (by have := (show (xss.take j_).flatten.length + a26.length ≤ 100000 by unfold sumL at hsn_ hsm_ hb; omega); simp only [maxLen, List.length_nil, List.length_cons, List.length_append]; omega) (by have := (show (xss.take j_).flatten.length + a26.length ≤ 100000 by unfold sumL at hsn_ hsm_ hb; omega); (try simp only [List.length_nil, List.length_cons, List.length_append]); omega)) ?_
   rintro v29 w30 M
   have sl31 : IsSl v29 := SlAt.isSl (own_slAt (M.chunk 0 rfl).inv)
   refine wA v29 (WL.nil (W.region rfl (wS (vI (↑j_ + 1)) rfl (Step.add rfl rfl (wrap_i64 (by omega))) (wM (vI (↑j_ + 1)) (WL.nil ?_)))))
   replace M := M.rechunk 0 (c' := oI v29 ((xss.take (j_ + 1)).flatten)) rfl (by rw [flat_snoc ha26])
   replace M := M.sub (List.Sublist.refl _) (R' := [SlAt 1 v xss.length cs3, RepL (SlsT 1 intE) cs3 xss, RepS (SlsT 1 intE) v xss]) (fun r h => (List.mem_cons_of_mem _ (List.mem_cons_of_mem _ h)))
   exact ⟨_, (by omega), j_ + 1, v29, ⟨(by omega), rfl⟩, ⟨rfl, rfl, rfl, rfl, rfl, rfl, rfl⟩, M⟩
  ·
   have h23p := of_decide_eq_false h23
   refine W.exit ?_
   refine thn_exit ?_
   refine thn_exit ?_
   refine inBlk_hit ?_
   refine wR (wM acc (wA acc (WL.nil ?_)))
   refine W.ret ?_
   refine ⟨.inl rfl, acc, ?_, ?_⟩
   · exact ⟨rfl, (Res.r1 (show RV _ _ _ (.tmp 2) acc from by exact rfl))⟩
   have e32 : xss.flatten = (xss.take j_).flatten := by
    rw [show j_ = xss.length by omega, List.take_length]
   replace M := M.rechunk 0 (c' := oI acc xss.flatten) rfl (congrArg (fun z => own 3 1 acc z.length (z.flatMap intE)) e32.symm)
   refine ⟨acc, ?_, M.close [0] rfl (by decide) trivial⟩
   rfl
theorem grow_hdl {G : Nat → Prop} {w : World} (n : Nat)  (hn : n ≤ 1000000) (M : Mem G (fun _ => False) w [] [] w) : Rets Try.prog 136 #[vZ, (vI ↑n)] w fun r w' => ∃ (v' : Value), r = v' ∧ Mem G (fun _ => False) w [oH v' ([] : List Handle)] [] w' := by
 refine Rets.enter 27 _ Try.func136 rfl Try.ntmps136 Try.results136 (by simp) ?_
 refine wR (wA vZ (WL.nil (W.seq' (wR (wM (vI ↑n) ?_)))))
 refine wP (vB (decide ((↑n : Int) < (0 : Int)))) (WL.nil ?_)
 refine W.cond (t := decide ((↑n : Int) < (0 : Int))) rfl (fun h1 => ?_) (fun h1 => ?_)
 ·
  have h1p := of_decide_eq_true h1
  omega
 ·
  have h1p := of_decide_eq_false h1
  refine W.skip (W.seq' (wR (wM (vI ↑n) (wM vZ (wS (vI 0) rfl (Step.capS Try.un96 rfl shp_nil) ?_)))))
  refine wM vZ (wS (vI 0) rfl (Step.lenS Try.un96 rfl rfl) (wP (vI 0) (wS (vI ↑n) rfl (Step.cast (congrArg (Value.int .i64) (show ((↑n : Int) - 0 : Int) = ↑n by omega)) (Step.sub rfl rfl (wrap_i64 (by omega)))) (wA (vI ↑n) (WL.nil ?_)))))
  refine wR (wM (vI ↑n) (wP (vB (decide ((↑n : Int) > (0 : Int)))) (WL.nil ?_)))
  refine W.cond (t := decide ((↑n : Int) > (0 : Int))) rfl (fun h2 => ?_) (fun h2 => ?_)
  ·
   have h2p := of_decide_eq_true h2
   refine W.region rfl (wM vZ (wM vZ (wS (vI 0) rfl (Step.capS Try.un96 rfl shp_nil) (wS vZ rfl (Step.sliceToP (h := 0) Try.un96 Try.el92.sized rfl rfl rfl shp_nil (Nat.zero_le _)) (wM (vI ↑n) ?_)))))
   refine WL.does rfl (M.nilZeros (k := n) Try.un96 Try.un3 Try.el92 rfl (by decide) rfl rfl (by omega) (by simp only [maxLen]; omega) (by omega)) ?_
   rintro v3 w4 ⟨junk5, hjunk5, -, M⟩
   have sl6 : IsSl v3 := SlAt.isSl (own_slAt (M.chunk 0 rfl).inv)
   have hsh7 := (own_slAt (M.chunk 0 rfl).inv).shp
   refine wM vZ (wS (vI 0) rfl (Step.lenS Try.un96 rfl rfl) (wS (vTake 0 v3) rfl (Step.sliceToP (h := 0) Try.un96 Try.el92.sized rfl rfl rfl hsh7 (by obtain ⟨_, _, _, _⟩ := hsh7; omega)) (wA (vTake 0 v3) (WL.nil (wR ?_)))))
   refine wM (vTake 0 v3) (wA (vTake 0 v3) (WL.nil ?_))
   refine W.ret ?_
   refine ⟨.inl rfl, (vTake 0 v3), ?_, ?_⟩
   · exact ⟨rfl, (Res.r1 (show RV _ _ _ (.tmp 4) (vTake 0 v3) from by exact rfl))⟩
   replace M := M.ownTake 0 0 rfl (Nat.zero_le _)
   replace M := M.rechunk 0 (c' := oH (vTake 0 v3) ([] : List Handle)) rfl (by simp <;> rfl)
   refine ⟨(vTake 0 v3), ?_, M.close [0] rfl (by decide) trivial⟩
   rfl
  ·
   have h2p := of_decide_eq_false h2
   refine W.skip (wR (wM vZ (wA vZ (WL.nil ?_))))
   refine W.ret ?_
   refine ⟨.inl rfl, vZ, ?_, ?_⟩
   · exact ⟨rfl, (Res.r1 (show RV _ _ _ (.tmp 4) vZ from by exact rfl))⟩
   replace M := M.ownNil 92 2
   refine ⟨vZ, ?_, M.close [0] rfl (by decide) trivial⟩
   rfl
theorem concat_hdl {G : Nat → Prop} {w : World} (v : Value) (xss : List (List Handle))  (hb : sumL xss ≤ 100000) (hbl : xss.length ≤ 100) (M : Mem G (fun _ => False) w [] [RepS (SlsT 2 handleE) v xss] w) : Rets Try.prog 129 #[v] w fun r w' => ∃ (v' : Value), r = v' ∧ Mem G (fun _ => False) w [oH v' xss.flatten] [] w' := by
 refine Rets.enter 36 _ Try.func129 rfl Try.ntmps129 Try.results129 (by simp) ?_
 have hle1 := RepS.le' (M.rep 0 rfl)
 have sl2 : IsSl v := RepS.isSl (Mem.rep M 0 rfl)
 obtain ⟨cs3, M⟩ := M.openS 0 rfl
 refine wR (wA vZ (WL.nil (wR (wA (vI 0) (WL.nil ?_)))))
 refine W.seq' (wR (wM v (wS (vI ↑xss.length) rfl (Step.lenSl Try.un195 rfl (M.rep 0 rfl)) (wM (vI 0) (WL.nil ?_)))))
 refine W.block ?_
 refine W.loop (fun kk ρ w' => ∃ (i_ : Nat) (s_ : Nat), ((i_ ≤ xss.length) ∧ (s_ = sumL (xss.take i_)) ∧ kk = xss.length - i_) ∧ ρ.has [(0, v), (2, vZ), (3, (vI ↑s_)), (9, v), (10, (vI ↑xss.length)), (11, (vI ↑i_))] ∧ Mem G (fun _ => False) w [] [SlAt 1 v xss.length cs3, RepL (SlsT 2 handleE) cs3 xss, RepS (SlsT 2 handleE) v xss]  w') _ ⟨0, 0, ⟨(Nat.zero_le _), rfl, rfl⟩, ⟨rfl, rfl, rfl, rfl, rfl, rfl, rfl, rfl⟩, M⟩ ?_
 rintro _ ρ5 w4 ⟨i_, s_, ⟨hi6, hi7, rfl⟩, hρ, M⟩
 obtain ⟨ρ5, rfl⟩ := hρ.know
 clear hρ
 have hsl_ := sumL_le xss i_
 refine wR (wP (vB (decide ((↑i_ : Int) < (↑xss.length : Int)))) (WL.nil (W.seq' ?_)))
 refine W.cond (t := decide ((↑i_ : Int) < (↑xss.length : Int))) rfl (fun h8 => ?_) (fun h8 => ?_)
 ·
  have h8p := of_decide_eq_true h8
  refine W.skip (W.seq' (W.block (wR ?_)))
  obtain ⟨cap10, hb9⟩ := SlAt.base (M.rep 0 rfl) (by omega)
  obtain ⟨a11, ha11⟩ := elem_of_lt (xs := xss) (i := i_) (by omega)
  obtain ⟨lv12, M⟩ := sls_open M 0 1 rfl rfl rfl ha11
  have sl13 : IsSl lv12 := SlAt.isSl (Mem.rep M 1 rfl)
  have hsn_ := sumL_snoc ha11
  have hsm_ := sumL_le xss (i_ + 1)
  refine wS (vQ v i_ 1) rfl (sX i_ Try.un195 Try.el96 rfl rfl hb9) (wS lv12 rfl (Step.loadE (k := 0) Try.sc96 (M.rep 0 rfl : EC _ _ _ _ _) (by decide) rfl rfl) (wA lv12 (WL.nil (wR (wM (vI ↑s_) ?_)))))
  refine wM lv12 (wS (vI ↑a11.length) rfl (Step.lenSl Try.un96 rfl (M.rep 1 rfl)) (wS (vI (↑s_ + ↑a11.length)) rfl (Step.add rfl rfl (wrap_i64 (by omega))) (wA (vI (↑s_ + ↑a11.length)) (WL.nil (wR ?_)))))
  refine wM (vI (↑s_ + ↑a11.length)) (wP (vB (decide ((↑s_ + ↑a11.length : Int) < (0 : Int)))) (WL.nil ?_))
  refine W.cond (t := decide ((↑s_ + ↑a11.length : Int) < (0 : Int))) rfl (fun h14 => ?_) (fun h14 => ?_)
  ·
   have h14p := of_decide_eq_true h14
   omega
  ·
   have h14p := of_decide_eq_false h14
   refine W.skip (W.region rfl (wS (vI (↑i_ + 1)) rfl (Step.add rfl rfl (wrap_i64 (by omega))) (wM (vI (↑i_ + 1)) (WL.nil ?_))))
   replace M := M.sub (List.Sublist.refl _) (R' := [SlAt 1 v xss.length cs3, RepL (SlsT 2 handleE) cs3 xss, RepS (SlsT 2 handleE) v xss]) (fun r h => (List.mem_cons_of_mem _ (List.mem_cons_of_mem _ h)))
   exact ⟨_, (by omega), i_ + 1, s_ + a11.length, ⟨(by omega), (by rw [sumL_snoc ha11]; omega), rfl⟩, ⟨rfl, rfl, rfl, rfl, rfl, rfl, rfl, rfl⟩, M⟩
 ·
  have h8p := of_decide_eq_false h8
  refine W.exit ?_
  refine thn_exit ?_
  refine thn_exit ?_
  refine inBlk_hit ?_
  refine wR (wM (vI ↑s_) ?_)
  refine WL.callX rfl (grow_hdl s_ (by omega) (M.enterW0 trivial)) (CallsF.func Try.en136 rfl) ?_
  rintro v15 w16 ⟨_, rfl, m⟩
  replace M := M.leaveW0 m
  clear m
  have sl17 : IsSl v15 := SlAt.isSl (own_slAt (Mem.chunk M 0 rfl).inv)
  have hle18 := SlAt.le' (own_slAt (Mem.chunk M 0 rfl).inv)
  refine wA v15 (WL.nil (W.seq' (wR (wM v (wS (vI ↑xss.length) rfl (Step.lenSl Try.un195 rfl (M.rep 0 rfl)) ?_)))))
  refine wM (vI 0) (WL.nil (W.block ?_))
  replace M := M.rechunk 0 (c' := oH v15 ((xss.take 0).flatten)) rfl rfl
  replace M := M.sel (L' := [oH v15 ((xss.take 0).flatten)]) [0] rfl (by decide)
  refine W.loop (fun kk ρ w' => ∃ (j_ : Nat) (acc : Value), ((j_ ≤ xss.length) ∧ kk = xss.length - j_) ∧ ρ.has [(2, vZ), (6, acc), (25, v), (26, (vI ↑xss.length)), (27, (vI ↑j_))] ∧ Mem G (fun _ => False) w [oH acc ((xss.take j_).flatten)] [SlAt 1 v xss.length cs3, RepL (SlsT 2 handleE) cs3 xss, RepS (SlsT 2 handleE) v xss]  w') _ ⟨0, _, ⟨(Nat.zero_le _), rfl⟩, ⟨rfl, rfl, rfl, rfl, rfl, rfl, rfl⟩, M⟩ ?_
  rintro _ ρ20 w19 ⟨j_, acc, ⟨hi21, rfl⟩, hρ, M⟩
  obtain ⟨ρ20, rfl⟩ := hρ.know
  clear hρ
  have sl22 : IsSl acc := SlAt.isSl (own_slAt (M.chunk 0 rfl).inv)
  have hcl_ : (xss.take j_).flatten.length ≤ xss.flatten.length := sumL_le xss j_
  refine wR (wP (vB (decide ((↑j_ : Int) < (↑xss.length : Int)))) (WL.nil (W.seq' ?_)))
  refine W.cond (t := decide ((↑j_ : Int) < (↑xss.length : Int))) rfl (fun h23 => ?_) (fun h23 => ?_)
  ·
   have h23p := of_decide_eq_true h23
   refine W.skip (W.seq' (W.block (wR ?_)))
   obtain ⟨cap25, hb24⟩ := SlAt.base (M.rep 0 rfl) (by omega)
   obtain ⟨a26, ha26⟩ := elem_of_lt (xs := xss) (i := j_) (by omega)
   obtain ⟨lv27, M⟩ := sls_open M 0 1 rfl rfl rfl ha26
   have sl28 : IsSl lv27 := SlAt.isSl (Mem.rep M 1 rfl)
   have hsn_ := sumL_snoc ha26
   have hsm_ := sumL_le xss (j_ + 1)
   refine wS (vQ v j_ 1) rfl (sX j_ Try.un195 Try.el96 rfl rfl hb24) (wS lv27 rfl (Step.loadE (k := 0) Try.sc96 (M.rep 0 rfl : EC _ _ _ _ _) (by decide) rfl rfl) (wA lv27 (WL.nil (W.region rfl (wM acc ?_)))))
   refine wM lv27 ?_
   refine WL.does rfl (M.appendF ((xss.take j_).flatten) a26 (sv := lv27) 0 Try.un96 Try.el92 rfl (by decide) rfl rfl rfl (M.rep 1 rfl) handleE_cel (by have := (show (xss.take j_).flatten.length + a26.length ≤ 100000 by unfold sumL at hsn_ hsm_ hb; omega); simp only [maxLen, List.length_nil, List.length_cons, List.length_append]; omega) (by have := (show (xss.take j_).flatten.length + a26.length ≤ 100000 by unfold sumL at hsn_ hsm_ hb; omega); (try simp only [List.length_nil, List.length_cons, List.length_append]); omega)) ?_
   rintro v29 w30 M
   have sl31 : IsSl v29 := SlAt.isSl (own_slAt (M.chunk 0 rfl).inv)
   refine wA v29 (WL.nil (W.region rfl (wS (vI (↑j_ + 1)) rfl (Step.add rfl rfl (wrap_i64 (by omega))) (wM (vI (↑j_ + 1)) (WL.nil ?_)))))
   replace M := M.rechunk 0 (c' := oH v29 ((xss.take (j_ + 1)).flatten)) rfl (by rw [flat_snoc ha26])
   replace M := M.sub (List.Sublist.refl _) (R' := [SlAt 1 v xss.length cs3, RepL (SlsT 2 handleE) cs3 xss, RepS (SlsT 2 handleE) v xss]) (fun r h => (List.mem_cons_of_mem _ (List.mem_cons_of_mem _ h)))
   exact ⟨_, (by omega), j_ + 1, v29, ⟨(by omega), rfl⟩, ⟨rfl, rfl, rfl, rfl, rfl, rfl, rfl⟩, M⟩
  ·
   have h23p := of_decide_eq_false h23
   refine W.exit ?_
   refine thn_exit ?_
   refine thn_exit ?_
   refine inBlk_hit ?_
   refine wR (wM acc (wA acc (WL.nil ?_)))
   refine W.ret ?_
   refine ⟨.inl rfl, acc, ?_, ?_⟩
   · exact ⟨rfl, (Res.r1 (show RV _ _ _ (.tmp 2) acc from by exact rfl))⟩
   have e32 : xss.flatten = (xss.take j_).flatten := by
    rw [show j_ = xss.length by omega, List.take_length]
   replace M := M.rechunk 0 (c' := oH acc xss.flatten) rfl (congrArg (fun z => own 92 2 acc z.length (z.flatMap handleE)) e32.symm)
   refine ⟨acc, ?_, M.close [0] rfl (by decide) trivial⟩
   rfl
end Go.Proofs
set_option maxRecDepth 100000
namespace Go.Proofs
open Go Tp
theorem Try.en93 : Enters Try.prog 93 := fun _ _ => by kernel_rfl
theorem Try.en111 : Enters Try.prog 111 := fun _ _ => by kernel_rfl
theorem Try.sc90 : Scal Try.prog 90 := fun _ => by kernel_rfl
theorem tr_node {G X : Nat → Prop} {w : World} (tb ab : Nat) (r : Handle) (fu : Bool) (ln : Int) (l : List RPlace) (S : Nat → Prop) (h : Handle)  (hA : SmallA l) (n : Nd) (hn : (rget l h).1 = n) (M : Mem G X w [arenaC 143 145 S ab l] [bF tb #[(vP ab), (vI r.at_), (vI r.turn), (vB fu), (vI ln)] 94] w) : Rets Try.prog 49 #[(vP tb), (Value.agg #[(vI h.at_), (vI h.turn)])] w fun r w' => ∃ (kv' : Value) (dv' : Value) (vv' : Value), r = (Value.agg #[(vB n.leaf), kv', dv', vv']) ∧ Mem G X w [arenaC 143 145 S ab l, oS kv' n.keys, oH dv' n.kids, oI vv' n.vals] [] w' := by
 refine Rets.enter 17 _ Try.func49 rfl Try.ntmps49 Try.results49 (by simp) ?_
 refine wR ?_
 refine WL.box (v := (Value.agg #[(vI h.at_), (vI h.turn)])) (c := #[(vI h.at_), (vI h.turn)]) M rfl rfl rfl (fun b1 w2 hb1 M => ?_)
 refine WL.alloc (c := #[(vB false), vZ, vZ, vZ]) M rfl Try.el99.zero rfl (fun b3 w4 hb3 M => ?_)
 refine WL.nil (W.seq' ?_)
 refine W.drawn M [0, 1, 2, 3, 4, 5, 6, 7, 8, 9, 10, 11] [5, 10] [9] _ _ (sY (sY (sY sE))) (fun _ h => h) Try.mixed (by kernel_rfl) ?_
 refine tP (vP tb) rfl (fun w => (Step.move rfl)) ?_
 refine tP (vP tb) rfl (fun w => sP) ?_
 refine tP (vP tb) rfl (fun w => sP) ?_
 refine tR (vP ab) rfl (fun A w M => (Step.load1 Try.sc90 rfl ((cell_blk (M.rep 0 rfl) 0).trans rfl))) ?_
 refine tR (Value.agg #[(vI h.at_), (vI h.turn)]) rfl (fun A w M => (Step.loadN Try.ag92 rfl (M.blk 2 rfl) (Nat.le_of_ble_eq_true rfl) rfl)) ?_
 let Q : List Chunk := [bk b3 #[(vB false), vZ, vZ, vZ] 99, bk b1 #[(vI h.at_), (vI h.turn)] 92]
 refine TW.callX (ι := Value × Value × Value) (fun jx v_ => v_ = (Value.tuple #[(Value.agg #[(vB (((rget l h).1).leaf)), jx.1, jx.2.1, jx.2.2]), (vI ((rget l h).2))])) (fun jx => [oS jx.1 (((rget l h).1).keys), oH jx.2.1 (((rget l h).1).kids), oI jx.2.2 (((rget l h).1).vals), bk b3 #[(vB false), vZ, vZ, vZ] 99, bk b1 #[(vI h.at_), (vI h.turn)] 92, arenaC 143 145 S ab l]) (fun jx => [bF tb #[(vP ab), (vI r.at_), (vI r.turn), (vB fu), (vI ln)] 94]) rfl (by decide) rfl (fun jx => (sN (sN (sN (sY (sY (sY sE))))))) (fun jx r h => h) (fun A w M => have fq := M.frm [arenaC 143 145 S ab l] (fl A :: Q) [3, 0, 1, 2] rfl; Rets.mono (ar_get ab l S h (by assumption) (M.eF fq trivial)) (fun v_ w_ ⟨kv17, dv18, vv19, e_, m⟩ => ⟨(kv17, dv18, vv19), e_, (M.lF fq m).sel [4, 1, 2, 3, 5, 6, 0] rfl (by decide), fun b hb => M.kF fq m b hb⟩)) (fun w => CallsF.func Try.en93 rfl) (fun jx v hp hin => ?_)
 obtain ⟨kv17, dv18, vv19⟩ := jx
 replace hp := hp.symm; subst hp
 obtain ⟨_, _, hin⟩ := hin
 have sl20 : IsSl kv17 := SlAt.isSl (own_slAt (Mem.chunk hin 1 rfl).inv)
 have hle21 := SlAt.le' (own_slAt (Mem.chunk hin 1 rfl).inv)
 have sl22 : IsSl dv18 := SlAt.isSl (own_slAt (Mem.chunk hin 2 rfl).inv)
 have hle23 := SlAt.le' (own_slAt (Mem.chunk hin 2 rfl).inv)
 have sl24 : IsSl vv19 := SlAt.isSl (own_slAt (Mem.chunk hin 3 rfl).inv)
 have hle25 := SlAt.le' (own_slAt (Mem.chunk hin 3 rfl).inv)
 clear hin
 refine tP (Value.tuple #[(Value.agg #[(vB (((rget l h).1).leaf)), kv17, dv18, vv19]), (vI ((rget l h).2))]) rfl (fun w => (Step.move rfl)) ?_
 refine tP (Value.agg #[(vB (((rget l h).1).leaf)), kv17, dv18, vv19]) rfl (fun w => sP) ?_
 refine tP (vI ((rget l h).2)) rfl (fun w => sP) ?_
 refine TW.new (obj := .cells #[(vB false), vZ, vZ, vZ] 99) (fun b => .pointer (some ⟨b, 0, none⟩)) rfl (by decide) (by decide) rfl (fun w => Step.alloc Try.el99.zero) (fun b26 => ?_)
 refine TW.store (v := (Value.agg #[(vB (((rget l h).1).leaf)), kv17, dv18, vv19])) (cs := [(vB (((rget l h).1).leaf)), kv17, dv18, vv19]) (c' := #[(vB (((rget l h).1).leaf)), kv17, dv18, vv19]) 0 rfl rfl (by decide) rfl Try.el99.sized rfl rfl rfl rfl (Nat.le_of_ble_eq_true rfl) (cel_cons rfl (cel_cons (IsSl.cel sl20) (cel_cons (IsSl.cel sl22) (cel_cons (IsSl.cel sl24) cel_nil)))) rfl rfl (sN (sN (sN (sN (sY (sY (sY sE))))))) (fun r h => h) ?_
 refine tP (vI ((rget l h).2)) rfl (fun w => (Step.assign rfl)) ?_
 refine TW.done (fun w27 M => ?_)
 refine wR (wS (Value.agg #[(vB (((rget l h).1).leaf)), kv17, dv18, vv19]) rfl (Step.loadN Try.ag99 rfl (M.blk 0 rfl) (Nat.le_of_ble_eq_true rfl) rfl) ?_)
 refine WL.store (v := (Value.agg #[(vB (((rget l h).1).leaf)), kv17, dv18, vv19])) (cs := [(vB (((rget l h).1).leaf)), kv17, dv18, vv19]) (c' := #[(vB (((rget l h).1).leaf)), kv17, dv18, vv19]) M 4 rfl rfl Try.el99.sized rfl rfl rfl rfl (Nat.le_of_ble_eq_true rfl) (cel_cons rfl (cel_cons (IsSl.cel sl20) (cel_cons (IsSl.cel sl22) (cel_cons (IsSl.cel sl24) cel_nil)))) rfl rfl (fun w28 M => ?_)
 refine WL.nil ?_
 refine W.ret ?_
 refine ⟨.inl rfl, (Value.agg #[(vB (((rget l h).1).leaf)), kv17, dv18, vv19]), ?_, ?_⟩
 · exact ⟨rfl, (Res.r1 (RV.cellN Try.ag99 rfl (M.blk 4 rfl) rfl))⟩
 have e29 : n.keys = ((rget l h).1).keys := by
  rw [hn]
 replace M := M.rechunk 1 (c' := oS kv17 n.keys) rfl (congrArg (fun z => own 9 1 kv17 z.length (z.flatMap strE)) e29.symm)
 have e30 : n.kids = ((rget l h).1).kids := by
  rw [hn]
 replace M := M.rechunk 2 (c' := oH dv18 n.kids) rfl (congrArg (fun z => own 92 2 dv18 z.length (z.flatMap handleE)) e30.symm)
 have e31 : n.vals = ((rget l h).1).vals := by
  rw [hn]
 replace M := M.rechunk 3 (c' := oI vv19 n.vals) rfl (congrArg (fun z => own 3 1 vv19 z.length (z.flatMap intE)) e31.symm)
 refine ⟨kv17, dv18, vv19, ?_, M.close [6, 1, 2, 3] rfl (by decide) trivial⟩
 rw [hn]
theorem tr_put {G X : Nat → Prop} {w : World} (tb ab : Nat) (r : Handle) (fu : Bool) (ln : Int) (l : List RPlace) (S : Nat → Prop) (h : Handle) (kv : Value) (dv : Value) (vv : Value) (n : Nd)  (hA : SmallA l) (hkn : n.keys.length ≤ 1000000) (hdn : n.kids.length ≤ 1000000) (hvn : n.vals.length ≤ 1000000) (M : Mem G X w [arenaC 143 145 S ab l] [bF tb #[(vP ab), (vI r.at_), (vI r.turn), (vB fu), (vI ln)] 94, fS kv n.keys, fH dv n.kids, fI vv n.vals] w) : Rets Try.prog 84 #[(vP tb), (Value.agg #[(vI h.at_), (vI h.turn)]), (Value.agg #[(vB n.leaf), kv, dv, vv])] w fun r w' => ∃ (S' : Nat → Prop), r = undef ∧ Mem G X w [arenaC 143 145 S' ab ((rput l h n).1)] [] w' := by
 refine Rets.enter 13 _ Try.func84 rfl Try.ntmps84 Try.results84 (by simp) ?_
 have hle1 := SlAt.le' (M.rep 1 rfl)
 have hle2 := SlAt.le' (M.rep 2 rfl)
 have hle3 := SlAt.le' (M.rep 3 rfl)
 have sl4 : IsSl kv := SlAt.isSl (Mem.rep M 1 rfl)
 have sl5 : IsSl dv := SlAt.isSl (Mem.rep M 2 rfl)
 have sl6 : IsSl vv := SlAt.isSl (Mem.rep M 3 rfl)
 refine wR ?_
 refine WL.box (v := (Value.agg #[(vI h.at_), (vI h.turn)])) (c := #[(vI h.at_), (vI h.turn)]) M rfl rfl rfl (fun b7 w8 hb7 M => ?_)
 refine WL.box (v := (Value.agg #[(vB n.leaf), kv, dv, vv])) (c := #[(vB n.leaf), kv, dv, vv]) M rfl rfl rfl (fun b9 w10 hb9 M => ?_)
 refine WL.nil ?_
 refine W.drawn M [0, 1, 2, 3, 4, 5, 6] [6] [] _ _ (sY (sY (sN sE))) (fun _ h => h) Try.mixed (by kernel_rfl) ?_
 refine tP (vP tb) rfl (fun w => (Step.move rfl)) ?_
 refine tP (vP tb) rfl (fun w => sP) ?_
 refine tP (vP tb) rfl (fun w => sP) ?_
 refine tR (vP ab) rfl (fun A w M => (Step.load1 Try.sc90 rfl ((cell_blk (M.rep 0 rfl) 0).trans rfl))) ?_
 refine tR (Value.agg #[(vI h.at_), (vI h.turn)]) rfl (fun A w M => (Step.loadN Try.ag92 rfl (M.blk 2 rfl) (Nat.le_of_ble_eq_true rfl) rfl)) ?_
 refine tR (Value.agg #[(vB n.leaf), kv, dv, vv]) rfl (fun A w M => (Step.loadN Try.ag99 rfl (M.blk 1 rfl) (Nat.le_of_ble_eq_true rfl) rfl)) ?_
 let Q : List Chunk := [bk b9 #[(vB n.leaf), kv, dv, vv] 99, bk b7 #[(vI h.at_), (vI h.turn)] 92]
 refine TW.callX (ι := (Nat → Prop)) (fun jx v_ => v_ = (vI ((rput l h n).2))) (fun jx => arenaC 143 145 jx ab ((rput l h n).1) :: Q) (fun jx => [bF tb #[(vP ab), (vI r.at_), (vI r.turn), (vB fu), (vI ln)] 94, fS kv n.keys, fH dv n.kids, fI vv n.vals]) rfl (by decide) rfl (fun jx => (sN (sY (sY sE)))) (fun jx r h => h) (fun A w M => have fq := M.frm [arenaC 143 145 S ab l] (fl A :: Q) [3, 0, 1, 2] rfl; Rets.mono (ar_put ab l S h kv dv vv n (by assumption) (by omega) (by omega) (by omega) (M.eF fq ⟨(M.rF fq 1 rfl), (M.rF fq 2 rfl), (M.rF fq 3 rfl), trivial⟩)) (fun v_ w_ ⟨S13, e_, m⟩ => ⟨S13, e_, (M.lF fq m).sel [1, 0, 2, 3] rfl (by decide), fun b hb => M.kF fq m b hb⟩)) (fun w => CallsF.func Try.en111 rfl) (fun S13 v hp hin => ?_)
 replace hp := hp.symm; subst hp
 obtain ⟨_, _, hin⟩ := hin
 clear hin
 refine TW.done (fun w14 M => ?_)
 refine ⟨.inr rfl, undef, ?_, ?_⟩
 · exact ⟨rfl, Res.none⟩
 refine ⟨S13, ?_, M.close [0] rfl (by decide) trivial⟩
 rfl
end Go.Proofs
set_option maxRecDepth 100000
namespace Go.Proofs
open Go Tp
theorem Try.en46 : Enters Try.prog 46 := fun _ _ => by kernel_rfl
theorem Try.en84 : Enters Try.prog 84 := fun _ _ => by kernel_rfl
theorem tr_settle {G X : Nat → Prop} {w : World} (tb ab : Nat) (r : Handle) (fu : Bool) (ln : Int) (l : List RPlace) (S : Nat → Prop) (h : Handle) (kv : Value) (dv : Value) (vv : Value) (n : Nd)  (hA : SmallA l) (hvl : n.vals.length = n.keys.length) (hkd : n.leaf = false → n.kids.length = n.keys.length + 1) (hkn : n.keys.length ≤ 1000) (hdn : n.kids.length ≤ 1000) (hvn : n.vals.length ≤ 1000) (M : Mem G X w [arenaC 143 145 S ab l] [bF tb #[(vP ab), (vI r.at_), (vI r.turn), (vB fu), (vI ln)] 94, fS kv n.keys, fH dv n.kids, fI vv n.vals] w) : Rets Try.prog 88 #[(vP tb), (Value.agg #[(vI h.at_), (vI h.turn)]), (Value.agg #[(vB n.leaf), kv, dv, vv])] w fun r w' => ∃ (u' : Value) (S' : Nat → Prop), r = u' ∧ Mem G X w [arenaC 143 145 S' ab ((settleF l h n).1), upC 104 u' ((settleF l h n).2)] [] w' := by
 refine Rets.enter 67 _ Try.func88 rfl Try.ntmps88 Try.results88 (by simp) ?_
 have hle1 := SlAt.le' (M.rep 1 rfl)
 have hle2 := SlAt.le' (M.rep 2 rfl)
 have hle3 := SlAt.le' (M.rep 3 rfl)
 have sl4 : IsSl kv := SlAt.isSl (Mem.rep M 1 rfl)
 have sl5 : IsSl dv := SlAt.isSl (Mem.rep M 2 rfl)
 have sl6 : IsSl vv := SlAt.isSl (Mem.rep M 3 rfl)
 refine wR ?_
 refine WL.box (v := (Value.agg #[(vI h.at_), (vI h.turn)])) (c := #[(vI h.at_), (vI h.turn)]) M rfl rfl rfl (fun b7 w8 hb7 M => ?_)
 refine WL.box (v := (Value.agg #[(vB n.leaf), kv, dv, vv])) (c := #[(vB n.leaf), kv, dv, vv]) M rfl rfl rfl (fun b9 w10 hb9 M => ?_)
 refine wA vN (WL.nil (W.seq' (wR (wP (Value.pointer (some ⟨b9, 1, none⟩)) (wS kv rfl (Step.load1 Try.sc22 rfl ((M.cell 0 rfl 1).trans rfl)) ?_)))))
 refine wS (vI ↑n.keys.length) rfl (Step.lenSl Try.un22 rfl (M.rep 1 rfl)) (wP (vB (decide ((↑n.keys.length : Int) ≤ (4 : Int)))) (WL.nil ?_))
 refine W.cond (t := decide ((↑n.keys.length : Int) ≤ (4 : Int))) rfl (fun h11 => ?_) (fun h11 => ?_)
 ·
  have h11p := of_decide_eq_true h11
  refine wR (wM (vP tb) (wS (Value.agg #[(vI h.at_), (vI h.turn)]) rfl (Step.loadN Try.ag92 rfl (M.blk 1 rfl) (Nat.le_of_ble_eq_true rfl) rfl) (wS (Value.agg #[(vB n.leaf), kv, dv, vv]) rfl (Step.loadN Try.ag99 rfl (M.blk 0 rfl) (Nat.le_of_ble_eq_true rfl) rfl) ?_)))
  have fq := M.frm [arenaC 143 145 S ab l] [bk b9 #[(vB n.leaf), kv, dv, vv] 99, bk b7 #[(vI h.at_), (vI h.turn)] 92] [2, 0, 1] rfl
  refine WL.callX rfl (tr_put tb ab r fu ln l S h kv dv vv n (by assumption) (by omega) (by omega) (by omega) (M.eF fq ⟨(M.rF fq 0 rfl), (M.rF fq 1 rfl), (M.rF fq 2 rfl), (M.rF fq 3 rfl), trivial⟩)) (CallsF.func Try.en84 rfl) ?_
  rintro _ w13 ⟨S12, rfl, m⟩
  replace M := M.lF fq m
  clear m
  refine WL.nil (wR (wA vN (WL.nil ?_)))
  refine W.ret ?_
  refine ⟨.inl rfl, vN, ?_, ?_⟩
  · exact ⟨rfl, (Res.r1 (show RV _ _ _ (.tmp 6) vN from by exact rfl))⟩
  replace M := M.mkNone (e := 104) (o := (settleF l h n).2) (by rw [settle_small (by omega)])
  have e14 : (settleF l h n).1 = (rput l h n).1 := by
   rw [settle_small (by omega)]
  replace M := M.rechunk 1 (c' := arenaC 143 145 S12 ab ((settleF l h n).1)) rfl (congrArg (fun z => arenaC 143 145 S12 ab z) e14.symm)
  refine ⟨vN, S12, ?_, M.close [1, 0] rfl (by decide) trivial⟩
  rfl
 ·
  have h11p := of_decide_eq_false h11
  refine W.skip (W.seq' ?_)
  have hsh15 := SlAt.shp (M.rep 1 rfl)
  have hsh15c := hsh15
  obtain ⟨_, _, hsh15l, hsh15m⟩ := hsh15c
  have hsh16 := SlAt.shp (M.rep 3 rfl)
  have hsh16c := hsh16
  obtain ⟨_, _, hsh16l, hsh16m⟩ := hsh16c
  refine W.drawn M [0, 1, 2, 3, 4, 5, 6, 7, 8, 9, 10] [10] [9] _ _ (sY (sY (sY sE))) (fun _ h => h) Try.mixed (by kernel_rfl) ?_
  refine tP (vP b9) rfl (fun w => sP) ?_
  refine tR (vB n.leaf) rfl (fun A w M => (Step.load1 Try.sc4 rfl ((M.cell 1 rfl 0).trans rfl))) ?_
  refine tP (Value.pointer (some ⟨b9, 1, none⟩)) rfl (fun w => sP) ?_
  refine tR kv rfl (fun A w M => (Step.load1 Try.sc22 rfl ((M.cell 1 rfl 1).trans rfl))) ?_
  refine tP (vSlice 1 3 n.keys.length (vCap kv) kv) rfl (fun w => (Step.sliceFromP (l := 3) Try.un22 Try.el9.sized rfl rfl rfl hsh15 (by omega))) ?_
  refine tP (Value.pointer (some ⟨b9, 3, none⟩)) rfl (fun w => sP) ?_
  refine tR vv rfl (fun A w M => (Step.load1 Try.sc97 rfl ((M.cell 1 rfl 3).trans rfl))) ?_
  refine tP (vSlice 1 3 n.vals.length (vCap vv) vv) rfl (fun w => (Step.sliceFromP (l := 3) Try.un97 Try.el3.sized rfl rfl rfl hsh16 (by omega))) ?_
  refine tP (Value.agg #[(vB n.leaf), (vSlice 1 3 n.keys.length (vCap kv) kv), vZ, (vSlice 1 3 n.vals.length (vCap vv) vv)]) rfl (fun w => (by obtain ⟨_, _, _, e⟩ := (vSlice_sl (Shp.isSl hsh15)); rw [e]; obtain ⟨_, _, _, e⟩ := (vSlice_sl (Shp.isSl hsh16)); rw [e]; exact sP)) ?_
  refine TW.new (obj := .cells #[(vB false), vZ, vZ, vZ] 99) (fun b => .pointer (some ⟨b, 0, none⟩)) rfl (by decide) (by decide) rfl (fun w => Step.alloc Try.el99.zero) (fun b23 => ?_)
  refine TW.store (v := (Value.agg #[(vB n.leaf), (vSlice 1 3 n.keys.length (vCap kv) kv), vZ, (vSlice 1 3 n.vals.length (vCap vv) vv)])) (cs := [(vB n.leaf), (vSlice 1 3 n.keys.length (vCap kv) kv), vZ, (vSlice 1 3 n.vals.length (vCap vv) vv)]) (c' := #[(vB n.leaf), (vSlice 1 3 n.keys.length (vCap kv) kv), vZ, (vSlice 1 3 n.vals.length (vCap vv) vv)]) 0 rfl rfl (by decide) rfl Try.el99.sized rfl rfl rfl rfl (Nat.le_of_ble_eq_true rfl) (cel_cons rfl (cel_cons (IsSl.cel (vSlice_sl (Shp.isSl hsh15))) (cel_cons rfl (cel_cons (IsSl.cel (vSlice_sl (Shp.isSl hsh16))) cel_nil)))) rfl rfl (sN (sY (sY (sY sE)))) (fun r h => h) ?_
  refine TW.done (fun w24 M => ?_)
  refine W.seq' ?_
  refine W.drawn M [0, 1, 2, 3, 4, 5, 6, 7, 8, 9, 10] [10] [9] _ _ (sY (sY (sY (sY sE)))) (fun _ h => h) Try.mixed (by kernel_rfl) ?_
  refine tP (vP b9) rfl (fun w => sP) ?_
  refine tR (vB n.leaf) rfl (fun A w M => (Step.load1 Try.sc4 rfl ((M.cell 2 rfl 0).trans rfl))) ?_
  refine tP (Value.pointer (some ⟨b9, 1, none⟩)) rfl (fun w => sP) ?_
  refine tR kv rfl (fun A w M => (Step.load1 Try.sc22 rfl ((M.cell 2 rfl 1).trans rfl))) ?_
  refine tP (vTake 2 kv) rfl (fun w => (Step.sliceToP (h := 2) Try.un22 Try.el9.sized rfl rfl rfl hsh15 (by obtain ⟨_, _, _, _⟩ := hsh15; omega))) ?_
  refine tP (Value.pointer (some ⟨b9, 3, none⟩)) rfl (fun w => sP) ?_
  refine tR vv rfl (fun A w M => (Step.load1 Try.sc97 rfl ((M.cell 2 rfl 3).trans rfl))) ?_
  refine tP (vTake 2 vv) rfl (fun w => (Step.sliceToP (h := 2) Try.un97 Try.el3.sized rfl rfl rfl hsh16 (by obtain ⟨_, _, _, _⟩ := hsh16; omega))) ?_
  refine tP (Value.agg #[(vB n.leaf), (vTake 2 kv), vZ, (vTake 2 vv)]) rfl (fun w => (by obtain ⟨_, _, _, e⟩ := (Shp.isSl (Shp.take hsh15 (k := 2) (by obtain ⟨_, _, _, _⟩ := hsh15; omega))); rw [e]; obtain ⟨_, _, _, e⟩ := (Shp.isSl (Shp.take hsh16 (k := 2) (by obtain ⟨_, _, _, _⟩ := hsh16; omega))); rw [e]; exact sP)) ?_
  refine TW.new (obj := .cells #[(vB false), vZ, vZ, vZ] 99) (fun b => .pointer (some ⟨b, 0, none⟩)) rfl (by decide) (by decide) rfl (fun w => Step.alloc Try.el99.zero) (fun b31 => ?_)
  refine TW.store (v := (Value.agg #[(vB n.leaf), (vTake 2 kv), vZ, (vTake 2 vv)])) (cs := [(vB n.leaf), (vTake 2 kv), vZ, (vTake 2 vv)]) (c' := #[(vB n.leaf), (vTake 2 kv), vZ, (vTake 2 vv)]) 0 rfl rfl (by decide) rfl Try.el99.sized rfl rfl rfl rfl (Nat.le_of_ble_eq_true rfl) (cel_cons rfl (cel_cons (IsSl.cel (Shp.isSl (Shp.take hsh15 (k := 2) (by obtain ⟨_, _, _, _⟩ := hsh15; omega)))) (cel_cons rfl (cel_cons (IsSl.cel (Shp.isSl (Shp.take hsh16 (k := 2) (by obtain ⟨_, _, _, _⟩ := hsh16; omega)))) cel_nil)))) rfl rfl (sN (sY (sY (sY (sY sE))))) (fun r h => h) ?_
  refine TW.done (fun w32 M => ?_)
  refine W.seq' (wR (wP (vP b9) (wS (vB n.leaf) rfl (Step.load1 Try.sc4 rfl ((M.cell 2 rfl 0).trans rfl)) (wP (vB !n.leaf) (WL.nil ?_)))))
  refine W.cond (t := !n.leaf) rfl (fun h33 => ?_) (fun h33 => ?_)
  ·
   have hlf_ : n.leaf = false := by simpa using h33
   have hkd_ := hkd hlf_
   have hsh34 := SlAt.shp (M.rep 2 rfl)
   have hsh34c := hsh34
   obtain ⟨_, _, hsh34l, hsh34m⟩ := hsh34c
   refine W.drawn M [0, 1, 2, 3, 4, 5, 6, 7, 8, 9] [7, 9] [] _ _ (sN (sN (sY (sY (sY sE))))) (fun _ h => h) Try.mixed (by kernel_rfl) ?_
   refine tP (Value.pointer (some ⟨b9, 2, none⟩)) rfl (fun w => sP) ?_
   refine tR dv rfl (fun A w M => (Step.load1 Try.sc96 rfl ((M.cell 1 rfl 2).trans rfl))) ?_
   refine tP (vTake 3 dv) rfl (fun w => (Step.sliceToP (h := 3) Try.un96 Try.el92.sized rfl rfl rfl hsh34 (by obtain ⟨_, _, _, _⟩ := hsh34; omega))) ?_
   refine tP (Value.pointer (some ⟨b9, 2, none⟩)) rfl (fun w => sP) ?_
   refine tR dv rfl (fun A w M => (Step.load1 Try.sc96 rfl ((M.cell 1 rfl 2).trans rfl))) ?_
   refine tP (vSlice 2 3 n.kids.length (vCap dv) dv) rfl (fun w => (Step.sliceFromP (l := 3) Try.un96 Try.el92.sized rfl rfl rfl hsh34 (by omega))) ?_
   refine tP (Value.pointer (some ⟨b31, 2, none⟩)) rfl (fun w => sP) ?_
   refine TW.store (v := (vTake 3 dv)) (cs := [(vTake 3 dv)]) (c' := #[(vB n.leaf), (vTake 2 kv), (vTake 3 dv), (vTake 2 vv)]) 0 rfl rfl (by decide) rfl Try.el96.sized rfl rfl (IsSl.list (Shp.isSl (Shp.take hsh34 (k := 3) (by obtain ⟨_, _, _, _⟩ := hsh34; omega)))) rfl (Nat.le_of_ble_eq_true rfl) (cel_cons (IsSl.cel (Shp.isSl (Shp.take hsh34 (k := 3) (by obtain ⟨_, _, _, _⟩ := hsh34; omega)))) cel_nil) rfl rfl (sN (sN (sY (sY (sY sE))))) (fun r h => h) ?_
   refine tP (Value.pointer (some ⟨b23, 2, none⟩)) rfl (fun w => sP) ?_
   refine TW.store (v := (vSlice 2 3 n.kids.length (vCap dv) dv)) (cs := [(vSlice 2 3 n.kids.length (vCap dv) dv)]) (c' := #[(vB n.leaf), (vSlice 1 3 n.keys.length (vCap kv) kv), (vSlice 2 3 n.kids.length (vCap dv) dv), (vSlice 1 3 n.vals.length (vCap vv) vv)]) 1 rfl rfl (by decide) rfl Try.el96.sized rfl rfl (IsSl.list (vSlice_sl (Shp.isSl hsh34))) rfl (Nat.le_of_ble_eq_true rfl) (cel_cons (IsSl.cel (vSlice_sl (Shp.isSl hsh34))) cel_nil) rfl rfl (sN (sN (sY (sY (sY sE))))) (fun r h => h) ?_
   refine TW.done (fun w39 M => ?_)
   refine wR (wM (vP tb) (wS (Value.agg #[(vI h.at_), (vI h.turn)]) rfl (Step.loadN Try.ag92 rfl (M.blk 3 rfl) (Nat.le_of_ble_eq_true rfl) rfl) (wS (Value.agg #[(vB n.leaf), (vTake 2 kv), (vTake 3 dv), (vTake 2 vv)]) rfl (Step.loadN Try.ag99 rfl (M.blk 0 rfl) (Nat.le_of_ble_eq_true rfl) rfl) ?_)))
   have fq := M.frm [arenaC 143 145 S ab l] [bk b31 #[(vB n.leaf), (vTake 2 kv), (vTake 3 dv), (vTake 2 vv)] 99, bk b23 #[(vB n.leaf), (vSlice 1 3 n.keys.length (vCap kv) kv), (vSlice 2 3 n.kids.length (vCap dv) dv), (vSlice 1 3 n.vals.length (vCap vv) vv)] 99, bk b9 #[(vB n.leaf), kv, dv, vv] 99, bk b7 #[(vI h.at_), (vI h.turn)] 92] [4, 0, 1, 2, 3] rfl
   refine WL.callX rfl (tr_put tb ab r fu ln l S h (vTake 2 kv) (vTake 3 dv) (vTake 2 vv) (⟨n.leaf, n.keys.take 2, n.kids.take 3, n.vals.take 2⟩ : Nd) (by assumption) (by simp [insL] <;> omega) (by simp [insL] <;> omega) (by simp [insL] <;> omega) (M.eF fq ⟨(M.rF fq 0 rfl), (((M.rF fq 1 rfl)).imp fun _ h => slat_take strE_len h (by omega)), (((M.rF fq 2 rfl)).imp fun _ h => slat_take handleE_len h (by omega)), (((M.rF fq 3 rfl)).imp fun _ h => slat_take intE_len h (by omega)), trivial⟩)) (CallsF.func Try.en84 rfl) ?_
   rintro _ w41 ⟨S40, rfl, m⟩
   replace M := M.lF fq m
   clear m
   refine WL.nil (W.seq' ?_)
   replace M := M.loseI 4
   replace M := M.loseI 1
   obtain ⟨cap43, hb42⟩ := SlAt.base (M.rep 1 rfl) (by omega)
   obtain ⟨x44, hx44⟩ := elem_of_lt (xs := n.keys) (i := 2) (by omega)
   obtain ⟨cap46, hb45⟩ := SlAt.base (M.rep 3 rfl) (by omega)
   obtain ⟨x47, hx47⟩ := elem_of_lt (xs := n.vals) (i := 2) (by omega)
   refine W.drawn M [0, 1, 2, 3, 4, 5, 6, 7, 8, 9, 10, 11, 12, 13, 14, 15, 16, 17] [14] [16] _ _ (sN (sY (sY sE))) (fun _ h => h) Try.mixed (by kernel_rfl) ?_
   refine tP (Value.pointer (some ⟨b9, 1, none⟩)) rfl (fun w => sP) ?_
   refine tR kv rfl (fun A w M => (Step.load1 Try.sc22 rfl ((M.cell 2 rfl 1).trans rfl))) ?_
   refine tP (vQ kv 2 1) rfl (fun w => (sX 2 Try.un22 Try.el9 rfl rfl hb42 rfl)) ?_
   refine tR (vS x44) rfl (fun A w M => (Step.loadE (k := 0) Try.sc9 (flat_ec (M.rep 1 rfl) hx44 strE_len) (by decide) rfl rfl)) ?_
   refine tP (Value.pointer (some ⟨b9, 3, none⟩)) rfl (fun w => sP) ?_
   refine tR vv rfl (fun A w M => (Step.load1 Try.sc97 rfl ((M.cell 2 rfl 3).trans rfl))) ?_
   refine tP (vQ vv 2 1) rfl (fun w => (sX 2 Try.un97 Try.el3 rfl rfl hb45 rfl)) ?_
   refine tR (vI x47) rfl (fun A w M => (Step.loadE (k := 0) Try.sc3 (flat_ec (M.rep 3 rfl) hx47 intE_len) (by decide) rfl rfl)) ?_
   refine tP (Value.agg #[(vS x44), (vI x47)]) rfl (fun w => sP) ?_
   refine tP (vP tb) rfl (fun w => (Step.move rfl)) ?_
   refine tP (vP tb) rfl (fun w => sP) ?_
   refine tP (vP tb) rfl (fun w => sP) ?_
   refine tR (vP ab) rfl (fun A w M => (Step.load1 Try.sc90 rfl ((cell_blk (M.rep 0 rfl) 0).trans rfl))) ?_
   refine tR (Value.agg #[(vB n.leaf), (vSlice 1 3 n.keys.length (vCap kv) kv), (vSlice 2 3 n.kids.length (vCap dv) dv), (vSlice 1 3 n.vals.length (vCap vv) vv)]) rfl (fun A w M => (Step.loadN Try.ag99 rfl (M.blk 1 rfl) (Nat.le_of_ble_eq_true rfl) rfl)) ?_
   let Q : List Chunk := [bk b23 #[(vB n.leaf), (vSlice 1 3 n.keys.length (vCap kv) kv), (vSlice 2 3 n.kids.length (vCap dv) dv), (vSlice 1 3 n.vals.length (vCap vv) vv)] 99, bk b9 #[(vB n.leaf), kv, dv, vv] 99]
   refine TW.callX (ι := (Nat → Prop)) (fun jx v_ => v_ = (Value.agg #[(vI (((rmake ((rput l h (⟨n.leaf, n.keys.take 2, n.kids.take 3, n.vals.take 2⟩ : Nd)).1) (⟨n.leaf, (n.keys.drop 3).take (n.keys.length - 3), (n.kids.drop 3).take (n.kids.length - 3), (n.vals.drop 3).take (n.vals.length - 3)⟩ : Nd)).2).at_)), (vI (((rmake ((rput l h (⟨n.leaf, n.keys.take 2, n.kids.take 3, n.vals.take 2⟩ : Nd)).1) (⟨n.leaf, (n.keys.drop 3).take (n.keys.length - 3), (n.kids.drop 3).take (n.kids.length - 3), (n.vals.drop 3).take (n.vals.length - 3)⟩ : Nd)).2).turn))])) (fun jx => arenaC 143 145 jx ab ((rmake ((rput l h (⟨n.leaf, n.keys.take 2, n.kids.take 3, n.vals.take 2⟩ : Nd)).1) (⟨n.leaf, (n.keys.drop 3).take (n.keys.length - 3), (n.kids.drop 3).take (n.kids.length - 3), (n.vals.drop 3).take (n.vals.length - 3)⟩ : Nd)).1) :: Q) (fun jx => [bF tb #[(vP ab), (vI r.at_), (vI r.turn), (vB fu), (vI ln)] 94, fS kv n.keys, fH dv n.kids, fI vv n.vals]) rfl (by decide) rfl (fun jx => (sN (sY (sY sE)))) (fun jx r h => h) (fun A w M => have fq := M.frm [arenaC 143 145 S40 ab ((rput l h (⟨n.leaf, n.keys.take 2, n.kids.take 3, n.vals.take 2⟩ : Nd)).1)] (fl A :: Q) [1, 0, 2, 3] rfl; Rets.mono (ar_make ab ((rput l h (⟨n.leaf, n.keys.take 2, n.kids.take 3, n.vals.take 2⟩ : Nd)).1) S40 (vSlice 1 3 n.keys.length (vCap kv) kv) (vSlice 2 3 n.kids.length (vCap dv) dv) (vSlice 1 3 n.vals.length (vCap vv) vv) (⟨n.leaf, (n.keys.drop 3).take (n.keys.length - 3), (n.kids.drop 3).take (n.kids.length - 3), (n.vals.drop 3).take (n.vals.length - 3)⟩ : Nd) (by first | assumption | exact SmallA.put (by assumption) (by first | omega | (simp [insL] <;> omega)) (by first | omega | (simp [insL] <;> omega)) (by first | omega | (simp [insL] <;> omega))) (by simp [insL] <;> omega) (by simp [insL] <;> omega) (by simp [insL] <;> omega) (M.eF fq ⟨(((M.rF fq 1 rfl)).imp fun _ h => slat_sliceF strE_len (l := 3) (h := n.keys.length) h (by omega) (by omega) (Nat.le_trans (by omega) (SlAt.cap h).1) (Nat.le_refl _)), (((M.rF fq 2 rfl)).imp fun _ h => slat_sliceF handleE_len (l := 3) (h := n.kids.length) h (by omega) (by omega) (Nat.le_trans (by omega) (SlAt.cap h).1) (Nat.le_refl _)), (((M.rF fq 3 rfl)).imp fun _ h => slat_sliceF intE_len (l := 3) (h := n.vals.length) h (by omega) (by omega) (Nat.le_trans (by omega) (SlAt.cap h).1) (Nat.le_refl _)), trivial⟩)) (fun v_ w_ ⟨S54, e_, m⟩ => ⟨S54, e_, (M.lF fq m).sel [1, 0, 2, 3] rfl (by decide), fun b hb => M.kF fq m b hb⟩)) (fun w => CallsF.func Try.en46 rfl) (fun S54 v hp hin => ?_)
   replace hp := hp.symm; subst hp
   obtain ⟨_, _, hin⟩ := hin
   clear hin
   refine tP (Value.agg #[(vS x44), (vI x47), (vI (((rmake ((rput l h (⟨n.leaf, n.keys.take 2, n.kids.take 3, n.vals.take 2⟩ : Nd)).1) (⟨n.leaf, (n.keys.drop 3).take (n.keys.length - 3), (n.kids.drop 3).take (n.kids.length - 3), (n.vals.drop 3).take (n.vals.length - 3)⟩ : Nd)).2).at_)), (vI (((rmake ((rput l h (⟨n.leaf, n.keys.take 2, n.kids.take 3, n.vals.take 2⟩ : Nd)).1) (⟨n.leaf, (n.keys.drop 3).take (n.keys.length - 3), (n.kids.drop 3).take (n.kids.length - 3), (n.vals.drop 3).take (n.vals.length - 3)⟩ : Nd)).2).turn))]) rfl (fun w => sP) ?_
   refine TW.new (obj := .cells #[(vS x44), (vI x47), (vI (((rmake ((rput l h (⟨n.leaf, n.keys.take 2, n.kids.take 3, n.vals.take 2⟩ : Nd)).1) (⟨n.leaf, (n.keys.drop 3).take (n.keys.length - 3), (n.kids.drop 3).take (n.kids.length - 3), (n.vals.drop 3).take (n.vals.length - 3)⟩ : Nd)).2).at_)), (vI (((rmake ((rput l h (⟨n.leaf, n.keys.take 2, n.kids.take 3, n.vals.take 2⟩ : Nd)).1) (⟨n.leaf, (n.keys.drop 3).take (n.keys.length - 3), (n.kids.drop 3).take (n.kids.length - 3), (n.vals.drop 3).take (n.vals.length - 3)⟩ : Nd)).2).turn))] 104) (fun b => .pointer (some ⟨b, 0, none⟩)) rfl (by decide) (by decide) rfl (fun w => Step.box (v := (Value.agg #[(vS x44), (vI x47), (vI (((rmake ((rput l h (⟨n.leaf, n.keys.take 2, n.kids.take 3, n.vals.take 2⟩ : Nd)).1) (⟨n.leaf, (n.keys.drop 3).take (n.keys.length - 3), (n.kids.drop 3).take (n.kids.length - 3), (n.vals.drop 3).take (n.vals.length - 3)⟩ : Nd)).2).at_)), (vI (((rmake ((rput l h (⟨n.leaf, n.keys.take 2, n.kids.take 3, n.vals.take 2⟩ : Nd)).1) (⟨n.leaf, (n.keys.drop 3).take (n.keys.length - 3), (n.kids.drop 3).take (n.kids.length - 3), (n.vals.drop 3).take (n.vals.length - 3)⟩ : Nd)).2).turn))])) rfl) (fun b55 => ?_)
   refine tP (vP b55) rfl (fun w => (Step.assign rfl)) ?_
   refine TW.done (fun w56 M => ?_)
   refine W.ret ?_
   refine ⟨.inl rfl, (vP b55), ?_, ?_⟩
   · exact ⟨rfl, (Res.r1 (show RV _ _ _ (.tmp 6) (vP b55) from by exact rfl))⟩
   replace M := M.mkSome (o := (settleF l h n).2) (u := ((⟨x44, x47⟩ : THit), ((rmake ((rput l h (⟨n.leaf, n.keys.take 2, n.kids.take 3, n.vals.take 2⟩ : Nd)).1) (⟨n.leaf, (n.keys.drop 3).take (n.keys.length - 3), (n.kids.drop 3).take (n.kids.length - 3), (n.vals.drop 3).take (n.vals.length - 3)⟩ : Nd)).2))) 0 rfl (by rw [settle_big (by omega)]; simp [hlf_, drop_rest, h11p, h33, hx44, hx47]) rfl
   have e57 : (settleF l h n).1 = (rmake ((rput l h (⟨n.leaf, n.keys.take 2, n.kids.take 3, n.vals.take 2⟩ : Nd)).1) (⟨n.leaf, (n.keys.drop 3).take (n.keys.length - 3), (n.kids.drop 3).take (n.kids.length - 3), (n.vals.drop 3).take (n.vals.length - 3)⟩ : Nd)).1 := by
    rw [settle_big (by omega)]
    simp [hlf_, drop_rest, h11p, h33, hx44, hx47]
   replace M := M.rechunk 1 (c' := arenaC 143 145 S54 ab ((settleF l h n).1)) rfl (congrArg (fun z => arenaC 143 145 S54 ab z) e57.symm)
   refine ⟨(vP b55), S54, ?_, M.close [1, 0] rfl (by decide) trivial⟩
   rfl
  ·
   have hlf_ : n.leaf = true := by simpa using h33
   refine W.skip (wR (wM (vP tb) (wS (Value.agg #[(vI h.at_), (vI h.turn)]) rfl (Step.loadN Try.ag92 rfl (M.blk 3 rfl) (Nat.le_of_ble_eq_true rfl) rfl) (wS (Value.agg #[(vB n.leaf), (vTake 2 kv), vZ, (vTake 2 vv)]) rfl (Step.loadN Try.ag99 rfl (M.blk 0 rfl) (Nat.le_of_ble_eq_true rfl) rfl) ?_))))
   have fq := M.frm [arenaC 143 145 S ab l] [bk b31 #[(vB n.leaf), (vTake 2 kv), vZ, (vTake 2 vv)] 99, bk b23 #[(vB n.leaf), (vSlice 1 3 n.keys.length (vCap kv) kv), vZ, (vSlice 1 3 n.vals.length (vCap vv) vv)] 99, bk b9 #[(vB n.leaf), kv, dv, vv] 99, bk b7 #[(vI h.at_), (vI h.turn)] 92] [4, 0, 1, 2, 3] rfl
   refine WL.callX rfl (tr_put tb ab r fu ln l S h (vTake 2 kv) vZ (vTake 2 vv) (⟨n.leaf, n.keys.take 2, ([] : List Handle), n.vals.take 2⟩ : Nd) (by assumption) (by simp [insL] <;> omega) (by simp [insL] <;> omega) (by simp [insL] <;> omega) (M.eF fq ⟨(M.rF fq 0 rfl), (((M.rF fq 1 rfl)).imp fun _ h => slat_take strE_len h (by omega)), (Sh.pure fun w => SlAt.nil 2 w), (((M.rF fq 3 rfl)).imp fun _ h => slat_take intE_len h (by omega)), trivial⟩)) (CallsF.func Try.en84 rfl) ?_
   rintro _ w59 ⟨S58, rfl, m⟩
   replace M := M.lF fq m
   clear m
   refine WL.nil (W.seq' ?_)
   replace M := M.loseI 4
   replace M := M.loseI 1
   obtain ⟨cap61, hb60⟩ := SlAt.base (M.rep 1 rfl) (by omega)
   obtain ⟨x62, hx62⟩ := elem_of_lt (xs := n.keys) (i := 2) (by omega)
   obtain ⟨cap64, hb63⟩ := SlAt.base (M.rep 3 rfl) (by omega)
   obtain ⟨x65, hx65⟩ := elem_of_lt (xs := n.vals) (i := 2) (by omega)
   refine W.drawn M [0, 1, 2, 3, 4, 5, 6, 7, 8, 9, 10, 11, 12, 13, 14, 15, 16, 17] [14] [16] _ _ (sN (sY (sY sE))) (fun _ h => h) Try.mixed (by kernel_rfl) ?_
   refine tP (Value.pointer (some ⟨b9, 1, none⟩)) rfl (fun w => sP) ?_
   refine tR kv rfl (fun A w M => (Step.load1 Try.sc22 rfl ((M.cell 2 rfl 1).trans rfl))) ?_
   refine tP (vQ kv 2 1) rfl (fun w => (sX 2 Try.un22 Try.el9 rfl rfl hb60 rfl)) ?_
   refine tR (vS x62) rfl (fun A w M => (Step.loadE (k := 0) Try.sc9 (flat_ec (M.rep 1 rfl) hx62 strE_len) (by decide) rfl rfl)) ?_
   refine tP (Value.pointer (some ⟨b9, 3, none⟩)) rfl (fun w => sP) ?_
   refine tR vv rfl (fun A w M => (Step.load1 Try.sc97 rfl ((M.cell 2 rfl 3).trans rfl))) ?_
   refine tP (vQ vv 2 1) rfl (fun w => (sX 2 Try.un97 Try.el3 rfl rfl hb63 rfl)) ?_
   refine tR (vI x65) rfl (fun A w M => (Step.loadE (k := 0) Try.sc3 (flat_ec (M.rep 3 rfl) hx65 intE_len) (by decide) rfl rfl)) ?_
   refine tP (Value.agg #[(vS x62), (vI x65)]) rfl (fun w => sP) ?_
   refine tP (vP tb) rfl (fun w => (Step.move rfl)) ?_
   refine tP (vP tb) rfl (fun w => sP) ?_
   refine tP (vP tb) rfl (fun w => sP) ?_
   refine tR (vP ab) rfl (fun A w M => (Step.load1 Try.sc90 rfl ((cell_blk (M.rep 0 rfl) 0).trans rfl))) ?_
   refine tR (Value.agg #[(vB n.leaf), (vSlice 1 3 n.keys.length (vCap kv) kv), vZ, (vSlice 1 3 n.vals.length (vCap vv) vv)]) rfl (fun A w M => (Step.loadN Try.ag99 rfl (M.blk 1 rfl) (Nat.le_of_ble_eq_true rfl) rfl)) ?_
   let Q : List Chunk := [bk b23 #[(vB n.leaf), (vSlice 1 3 n.keys.length (vCap kv) kv), vZ, (vSlice 1 3 n.vals.length (vCap vv) vv)] 99, bk b9 #[(vB n.leaf), kv, dv, vv] 99]
   refine TW.callX (ι := (Nat → Prop)) (fun jx v_ => v_ = (Value.agg #[(vI (((rmake ((rput l h (⟨n.leaf, n.keys.take 2, ([] : List Handle), n.vals.take 2⟩ : Nd)).1) (⟨n.leaf, (n.keys.drop 3).take (n.keys.length - 3), ([] : List Handle), (n.vals.drop 3).take (n.vals.length - 3)⟩ : Nd)).2).at_)), (vI (((rmake ((rput l h (⟨n.leaf, n.keys.take 2, ([] : List Handle), n.vals.take 2⟩ : Nd)).1) (⟨n.leaf, (n.keys.drop 3).take (n.keys.length - 3), ([] : List Handle), (n.vals.drop 3).take (n.vals.length - 3)⟩ : Nd)).2).turn))])) (fun jx => arenaC 143 145 jx ab ((rmake ((rput l h (⟨n.leaf, n.keys.take 2, ([] : List Handle), n.vals.take 2⟩ : Nd)).1) (⟨n.leaf, (n.keys.drop 3).take (n.keys.length - 3), ([] : List Handle), (n.vals.drop 3).take (n.vals.length - 3)⟩ : Nd)).1) :: Q) (fun jx => [bF tb #[(vP ab), (vI r.at_), (vI r.turn), (vB fu), (vI ln)] 94, fS kv n.keys, fH dv n.kids, fI vv n.vals]) rfl (by decide) rfl (fun jx => (sN (sY (sY sE)))) (fun jx r h => h) (fun A w M => have fq := M.frm [arenaC 143 145 S58 ab ((rput l h (⟨n.leaf, n.keys.take 2, ([] : List Handle), n.vals.take 2⟩ : Nd)).1)] (fl A :: Q) [1, 0, 2, 3] rfl; Rets.mono (ar_make ab ((rput l h (⟨n.leaf, n.keys.take 2, ([] : List Handle), n.vals.take 2⟩ : Nd)).1) S58 (vSlice 1 3 n.keys.length (vCap kv) kv) vZ (vSlice 1 3 n.vals.length (vCap vv) vv) (⟨n.leaf, (n.keys.drop 3).take (n.keys.length - 3), ([] : List Handle), (n.vals.drop 3).take (n.vals.length - 3)⟩ : Nd) (by first | assumption | exact SmallA.put (by assumption) (by first | omega | (simp [insL] <;> omega)) (by first | omega | (simp [insL] <;> omega)) (by first | omega | (simp [insL] <;> omega))) (by simp [insL] <;> omega) (by simp [insL] <;> omega) (by simp [insL] <;> omega) (M.eF fq ⟨(((M.rF fq 1 rfl)).imp fun _ h => slat_sliceF strE_len (l := 3) (h := n.keys.length) h (by omega) (by omega) (Nat.le_trans (by omega) (SlAt.cap h).1) (Nat.le_refl _)), (Sh.pure fun w => SlAt.nil 2 w), (((M.rF fq 3 rfl)).imp fun _ h => slat_sliceF intE_len (l := 3) (h := n.vals.length) h (by omega) (by omega) (Nat.le_trans (by omega) (SlAt.cap h).1) (Nat.le_refl _)), trivial⟩)) (fun v_ w_ ⟨S72, e_, m⟩ => ⟨S72, e_, (M.lF fq m).sel [1, 0, 2, 3] rfl (by decide), fun b hb => M.kF fq m b hb⟩)) (fun w => CallsF.func Try.en46 rfl) (fun S72 v hp hin => ?_)
   replace hp := hp.symm; subst hp
   obtain ⟨_, _, hin⟩ := hin
   clear hin
   refine tP (Value.agg #[(vS x62), (vI x65), (vI (((rmake ((rput l h (⟨n.leaf, n.keys.take 2, ([] : List Handle), n.vals.take 2⟩ : Nd)).1) (⟨n.leaf, (n.keys.drop 3).take (n.keys.length - 3), ([] : List Handle), (n.vals.drop 3).take (n.vals.length - 3)⟩ : Nd)).2).at_)), (vI (((rmake ((rput l h (⟨n.leaf, n.keys.take 2, ([] : List Handle), n.vals.take 2⟩ : Nd)).1) (⟨n.leaf, (n.keys.drop 3).take (n.keys.length - 3), ([] : List Handle), (n.vals.drop 3).take (n.vals.length - 3)⟩ : Nd)).2).turn))]) rfl (fun w => sP) ?_
   refine TW.new (obj := .cells #[(vS x62), (vI x65), (vI (((rmake ((rput l h (⟨n.leaf, n.keys.take 2, ([] : List Handle), n.vals.take 2⟩ : Nd)).1) (⟨n.leaf, (n.keys.drop 3).take (n.keys.length - 3), ([] : List Handle), (n.vals.drop 3).take (n.vals.length - 3)⟩ : Nd)).2).at_)), (vI (((rmake ((rput l h (⟨n.leaf, n.keys.take 2, ([] : List Handle), n.vals.take 2⟩ : Nd)).1) (⟨n.leaf, (n.keys.drop 3).take (n.keys.length - 3), ([] : List Handle), (n.vals.drop 3).take (n.vals.length - 3)⟩ : Nd)).2).turn))] 104) (fun b => .pointer (some ⟨b, 0, none⟩)) rfl (by decide) (by decide) rfl (fun w => Step.box (v := (Value.agg #[(vS x62), (vI x65), (vI (((rmake ((rput l h (⟨n.leaf, n.keys.take 2, ([] : List Handle), n.vals.take 2⟩ : Nd)).1) (⟨n.leaf, (n.keys.drop 3).take (n.keys.length - 3), ([] : List Handle), (n.vals.drop 3).take (n.vals.length - 3)⟩ : Nd)).2).at_)), (vI (((rmake ((rput l h (⟨n.leaf, n.keys.take 2, ([] : List Handle), n.vals.take 2⟩ : Nd)).1) (⟨n.leaf, (n.keys.drop 3).take (n.keys.length - 3), ([] : List Handle), (n.vals.drop 3).take (n.vals.length - 3)⟩ : Nd)).2).turn))])) rfl) (fun b73 => ?_)
   refine tP (vP b73) rfl (fun w => (Step.assign rfl)) ?_
   refine TW.done (fun w74 M => ?_)
   refine W.ret ?_
   refine ⟨.inl rfl, (vP b73), ?_, ?_⟩
   · exact ⟨rfl, (Res.r1 (show RV _ _ _ (.tmp 6) (vP b73) from by exact rfl))⟩
   replace M := M.mkSome (o := (settleF l h n).2) (u := ((⟨x62, x65⟩ : THit), ((rmake ((rput l h (⟨n.leaf, n.keys.take 2, ([] : List Handle), n.vals.take 2⟩ : Nd)).1) (⟨n.leaf, (n.keys.drop 3).take (n.keys.length - 3), ([] : List Handle), (n.vals.drop 3).take (n.vals.length - 3)⟩ : Nd)).2))) 0 rfl (by rw [settle_big (by omega)]; simp [hlf_, drop_rest, h11p, h33, hx62, hx65]) rfl
   have e75 : (settleF l h n).1 = (rmake ((rput l h (⟨n.leaf, n.keys.take 2, ([] : List Handle), n.vals.take 2⟩ : Nd)).1) (⟨n.leaf, (n.keys.drop 3).take (n.keys.length - 3), ([] : List Handle), (n.vals.drop 3).take (n.vals.length - 3)⟩ : Nd)).1 := by
    rw [settle_big (by omega)]
    simp [hlf_, drop_rest, h11p, h33, hx62, hx65]
   replace M := M.rechunk 1 (c' := arenaC 143 145 S72 ab ((settleF l h n).1)) rfl (congrArg (fun z => arenaC 143 145 S72 ab z) e75.symm)
   refine ⟨(vP b73), S72, ?_, M.close [1, 0] rfl (by decide) trivial⟩
   rfl
end Go.Proofs
set_option maxRecDepth 100000
namespace Go.Proofs
open Go Tp
theorem Try.ag41 : Aggr Try.prog 41 2 := ⟨fun _ => by kernel_rfl, fun _ => by kernel_rfl⟩
theorem Try.en47 : Enters Try.prog 47 := fun _ _ => by kernel_rfl
theorem Try.en49 : Enters Try.prog 49 := fun _ _ => by kernel_rfl
theorem Try.en83 : Enters Try.prog 83 := fun _ _ => by kernel_rfl
theorem Try.en85 : Enters Try.prog 85 := fun _ _ => by kernel_rfl
theorem Try.en86 : Enters Try.prog 86 := fun _ _ => by kernel_rfl
theorem Try.en87 : Enters Try.prog 87 := fun _ _ => by kernel_rfl
theorem Try.en88 : Enters Try.prog 88 := fun _ _ => by kernel_rfl
theorem tr_insert : ∀ (d : Nat) {G X : Nat → Prop} {w : World} (tb ab : Nat) (r : Handle) (fu : Bool) (ln : Int) (l : List RPlace) (S : Nat → Prop) (h : Handle) (x : THit)  (hO : insOk d l h x) (M : Mem G X w [arenaC 143 145 S ab l] [bF tb #[(vP ab), (vI r.at_), (vI r.turn), (vB fu), (vI ln)] 94] w), Rets Try.prog 47 #[(vP tb), (Value.agg #[(vI h.at_), (vI h.turn)]), (Value.agg #[(vS x.key), (vI x.val)])] w fun r w' => ∃ (u' : Value) (S' : Nat → Prop), r = (Value.tuple #[(vI ((insF d l h x).2.1.1)), (vB ((insF d l h x).2.1.2)), u']) ∧ Mem G X w [arenaC 143 145 S' ab ((insF d l h x).1), upC 104 u' ((insF d l h x).2.2)] [] w' := by
 intro d
 induction d using Nat.strongRecOn
 rename_i d ih
 intro G X w tb ab r fu ln l S h x hO M
 refine Rets.enter 115 _ Try.func47 rfl Try.ntmps47 Try.results47 (by simp) ?_
 obtain ⟨n, hn⟩ : ∃ n, (rget l h).1 = n := ⟨_, rfl⟩
 obtain ⟨hA, hty, hvl, hup⟩ := insOk_node hO hn
 obtain ⟨ht1, ht2, ht3⟩ := hty
 have hbi_ := bsI_le n.keys x.key
 refine wR ?_
 refine WL.box (v := (Value.agg #[(vI h.at_), (vI h.turn)])) (c := #[(vI h.at_), (vI h.turn)]) M rfl rfl rfl (fun b1 w2 hb1 M => ?_)
 refine WL.box (v := (Value.agg #[(vS x.key), (vI x.val)])) (c := #[(vS x.key), (vI x.val)]) M rfl rfl rfl (fun b3 w4 hb3 M => ?_)
 refine wA (vI 0) (wA (vB false) (wA vN (WL.nil (wR (wM (vP tb) ?_)))))
 refine wS (Value.agg #[(vI h.at_), (vI h.turn)]) rfl (Step.loadN Try.ag92 rfl (M.blk 1 rfl) (Nat.le_of_ble_eq_true rfl) rfl) ?_
 have fq := M.frm [arenaC 143 145 S ab l] [bk b3 #[(vS x.key), (vI x.val)] 41, bk b1 #[(vI h.at_), (vI h.turn)] 92] [2, 0, 1] rfl
 refine WL.callX rfl (tr_node tb ab r fu ln l S h (by assumption) n hn (M.eF fq ⟨(M.rF fq 0 rfl), trivial⟩)) (CallsF.func Try.en49 rfl) ?_
 rintro _ w8 ⟨kv5, dv6, vv7, rfl, m⟩
 replace M := M.lF fq m
 clear m
 have sl9 : IsSl kv5 := SlAt.isSl (own_slAt (Mem.chunk M 1 rfl).inv)
 have hle10 := SlAt.le' (own_slAt (Mem.chunk M 1 rfl).inv)
 have sl11 : IsSl dv6 := SlAt.isSl (own_slAt (Mem.chunk M 2 rfl).inv)
 have hle12 := SlAt.le' (own_slAt (Mem.chunk M 2 rfl).inv)
 have sl13 : IsSl vv7 := SlAt.isSl (own_slAt (Mem.chunk M 3 rfl).inv)
 have hle14 := SlAt.le' (own_slAt (Mem.chunk M 3 rfl).inv)
 refine WL.alloc (c := #[(vB false), vZ, vZ, vZ]) M rfl Try.el99.zero rfl (fun b15 w16 hb15 M => ?_)
 refine WL.store (v := (Value.agg #[(vB n.leaf), kv5, dv6, vv7])) (cs := [(vB n.leaf), kv5, dv6, vv7]) (c' := #[(vB n.leaf), kv5, dv6, vv7]) M 0 rfl rfl Try.el99.sized rfl rfl rfl rfl (Nat.le_of_ble_eq_true rfl) (cel_cons rfl (cel_cons (IsSl.cel sl9) (cel_cons (IsSl.cel sl11) (cel_cons (IsSl.cel sl13) cel_nil)))) rfl rfl (fun w17 M => ?_)
 refine WL.nil (wR (wP (Value.pointer (some ⟨b15, 1, none⟩)) (wS kv5 rfl (Step.load1 Try.sc22 rfl ((M.cell 0 rfl 1).trans rfl)) (wP (vP b3) (wS (vS x.key) rfl (Step.load1 Try.sc9 rfl ((M.cell 5 rfl 0).trans rfl)) ?_)))))
 refine WL.callX rfl (bs_str kv5 n.keys x.key (by omega) (by assumption) (M.enterW0 ⟨((M.wideC0 2 rfl).imp fun _ h => own_slAt h), trivial⟩)) (CallsF.func Try.en83 rfl) ?_
 rintro _ w18 ⟨rfl, m⟩
 replace M := M.leaveW0 m
 clear m
 refine wM (Value.tuple #[(vI (↑(bsI n.keys x.key))), (vB (bsF n.keys x.key))]) (wP (vI (↑(bsI n.keys x.key))) (wP (vB (bsF n.keys x.key)) (wA (vI (↑(bsI n.keys x.key))) (wA (vB (bsF n.keys x.key)) (WL.nil ?_)))))
 refine W.seq' (W.block (wR (wM (vB (bsF n.keys x.key)) (wA (vB (bsF n.keys x.key)) (WL.nil ?_)))))
 refine W.cond (t := bsF n.keys x.key) rfl (fun h19 => ?_) (fun h19 => ?_)
 ·
  have hbl_ := bsF_lt h19
  refine W.seq' ?_
  obtain ⟨cap21, hb20⟩ := SlAt.base (own_slAt (M.chunk 4 rfl).inv) (by omega)
  obtain ⟨x22, hx22⟩ := elem_of_lt (xs := n.vals) (i := bsI n.keys x.key) (by omega)
  obtain ⟨pre23, post24, hcs25, hpre26, hback27⟩ := flat_open intE_len hx22
  replace M := M.rechunk 4 (c' := own 3 1 vv7 n.vals.length (pre23 ++ ([(vI x22)] ++ post24))) rfl (by show own 3 1 vv7 n.vals.length (n.vals.flatMap intE) = _; rw [hcs25]; rfl)
  refine W.drawn2 M [0, 1, 2, 3, 4, 5, 6, 7, 8, 9, 10] [11, 12] [12] [] _ _ (sY (sY (sY (sY (sY (sY (sY sE))))))) (fun _ h => h) Try.mixed (by kernel_rfl) ?_
  refine tP (Value.pointer (some ⟨b15, 3, none⟩)) rfl (fun w => sP) ?_
  refine tR vv7 rfl (fun A w M => (Step.load1 Try.sc97 rfl ((M.cell 1 rfl 3).trans rfl))) ?_
  refine tP (vI (↑(bsI n.keys x.key))) rfl (fun w => (Step.move rfl)) ?_
  refine tP (Value.pointer (some ⟨b15, 3, none⟩)) rfl (fun w => sP) ?_
  refine tR vv7 rfl (fun A w M => (Step.load1 Try.sc97 rfl ((M.cell 1 rfl 3).trans rfl))) ?_
  refine tP (vI (↑(bsI n.keys x.key))) rfl (fun w => (Step.move rfl)) ?_
  refine tP (vQ vv7 (bsI n.keys x.key) 1) rfl (fun w => (sX (bsI n.keys x.key) Try.un97 Try.el3 rfl rfl hb20)) ?_
  refine tR (vI x22) rfl (fun A w M => (Step.loadE (k := 0) Try.sc3 (ec_open (own_slAt (M.chunk 5 rfl).inv) hpre26 rfl (by first | omega | (simp only [List.length_set, List.length_append, List.length_cons, List.length_nil]; omega))) (by decide) rfl rfl)) ?_
  refine tP (Value.pointer (some ⟨b3, 1, none⟩)) rfl (fun w => sP) ?_
  refine tR (vI x.val) rfl (fun A w M => (Step.load1 Try.sc3 rfl ((M.cell 6 rfl 1).trans rfl))) ?_
  refine tP (vI x22) rfl (fun w => (Step.assign rfl)) ?_
  refine TW.turn _ _ (sY (sY (sY (sY (sN (sY (sY sE))))))) (fun _ h => h) ?_
  refine tP (vQ vv7 (bsI n.keys x.key) 1) rfl (fun w => (sX (bsI n.keys x.key) Try.un97 Try.el3 rfl rfl hb20)) ?_
  refine TW.act (c' := own 3 1 vv7 n.vals.length (pre23 ++ ([(vI x.val)] ++ post24))) 4 rfl rfl (by decide) rfl (sY (sY (sY (sY (sN (sY (sY sE))))))) (fun r h => h) (fun A w M => M.storeAt (cells := [(vI x22)]) (cells' := [(vI x.val)]) (new := [(vI x.val)]) (k := 0) 5 rfl hpre26 Try.el3.sized rfl rfl rfl (cel_cons rfl cel_nil) (by first | omega | (simp only [List.length_set, List.length_append, List.length_cons, List.length_nil]; omega)) (Nat.le_of_ble_eq_true rfl) rfl rfl) ?_
  refine TW.done (fun w28 M => ?_)
  refine wR (wM (vP tb) (wS (Value.agg #[(vI h.at_), (vI h.turn)]) rfl (Step.loadN Try.ag92 rfl (M.blk 6 rfl) (Nat.le_of_ble_eq_true rfl) rfl) (wS (Value.agg #[(vB n.leaf), kv5, dv6, vv7]) rfl (Step.loadN Try.ag99 rfl (M.blk 0 rfl) (Nat.le_of_ble_eq_true rfl) rfl) ?_)))
  replace M := M.rechunk 4 (c' := own 3 1 vv7 (n.vals.length) ((n.vals.set (bsI n.keys x.key) x.val).flatMap intE)) rfl (by rw [← hback27]; rfl)
  replace M := M.rechunk 4 (c' := oI vv7 (n.vals.set (bsI n.keys x.key) x.val)) rfl (by show _ = own 3 1 vv7 ((n.vals.set (bsI n.keys x.key) x.val).length) ((n.vals.set (bsI n.keys x.key) x.val).flatMap intE); rw [List.length_set])
  have fq := M.frm [arenaC 143 145 S ab l] [bk b15 #[(vB n.leaf), kv5, dv6, vv7] 99, oS kv5 n.keys, oH dv6 n.kids, oI vv7 (n.vals.set (bsI n.keys x.key) x.val), bk b3 #[(vS x.key), (vI x.val)] 41, bk b1 #[(vI h.at_), (vI h.turn)] 92] [1, 0, 2, 3, 4, 5, 6] rfl
  refine WL.callX rfl (tr_put tb ab r fu ln l S h kv5 dv6 vv7 (⟨n.leaf, n.keys, n.kids, n.vals.set (bsI n.keys x.key) x.val⟩ : Nd) (by assumption) (by simp [insL] <;> omega) (by simp [insL] <;> omega) (by simp [insL] <;> omega) (M.eF fq ⟨(M.rF fq 0 rfl), ((M.cF fq 1 rfl).imp fun _ h => own_slAt h), ((M.cF fq 2 rfl).imp fun _ h => own_slAt h), ((M.cF fq 3 rfl).imp fun _ h => own_slAt h), trivial⟩)) (CallsF.func Try.en84 rfl) ?_
  rintro _ w30 ⟨S29, rfl, m⟩
  replace M := M.lF fq m
  clear m
  refine WL.nil (wR (wM (vI x22) (wA (vI x22) (wA (vB true) (wA vN ?_)))))
  refine WL.nil ?_
  refine W.ret ?_
  refine ⟨.inl rfl, (Value.tuple #[(vI x22), (vB true), vN]), ?_, ?_⟩
  · exact ⟨rfl, (Res.r3 (show RV _ _ _ (.tmp 6) (vI x22) from by exact rfl) (show RV _ _ _ (.tmp 7) (vB true) from by exact rfl) (show RV _ _ _ (.tmp 8) vN from by exact rfl))⟩
  have hup_ : (insF d l h x).2.2 = none := by
   rw [insF_hit hn h19]
  replace M := M.mkNone (e := 104) (o := (insF d l h x).2.2) hup_
  have e31 : (insF d l h x).1 = (rput l h (⟨n.leaf, n.keys, n.kids, n.vals.set (bsI n.keys x.key) x.val⟩ : Nd)).1 := by
   rw [insF_hit hn h19]
   try rfl
  replace M := M.rechunk 1 (c' := arenaC 143 145 S29 ab ((insF d l h x).1)) rfl (congrArg (fun z => arenaC 143 145 S29 ab z) e31.symm)
  refine ⟨vN, S29, ?_, M.close [1, 0] rfl (by decide) trivial⟩
  rw [insF_hit hn h19]
  simp [h19, hx22]
 ·
  refine wR (wP (vP b15) (wS (vB n.leaf) rfl (Step.load1 Try.sc4 rfl ((M.cell 0 rfl 0).trans rfl)) (wA (vB n.leaf) (WL.nil ?_))))
  refine W.cond (t := n.leaf) rfl (fun h32 => ?_) (fun h32 => ?_)
  ·
   refine W.drawn2 M [0, 1, 2, 3, 4, 7, 8, 9, 10, 11, 5, 6, 14, 12, 13] [15, 16, 17] [6, 13, 15, 17] [5, 12] _ _ (sY (sY (sN (sY (sN (sY (sY sE))))))) (fun _ h => h) Try.mixed (by kernel_rfl) ?_
   refine tP (Value.pointer (some ⟨b15, 1, none⟩)) rfl (fun w => sP) ?_
   refine tR kv5 rfl (fun A w M => (Step.load1 Try.sc22 rfl ((M.cell 1 rfl 1).trans rfl))) ?_
   refine tP (vI (↑(bsI n.keys x.key))) rfl (fun w => (Step.move rfl)) ?_
   refine tP (vP b3) rfl (fun w => sP) ?_
   refine tR (vS x.key) rfl (fun A w M => (Step.load1 Try.sc9 rfl ((M.cell 4 rfl 0).trans rfl))) ?_
   refine tP (Value.pointer (some ⟨b15, 3, none⟩)) rfl (fun w => sP) ?_
   refine tR vv7 rfl (fun A w M => (Step.load1 Try.sc97 rfl ((M.cell 1 rfl 3).trans rfl))) ?_
   refine tP (vI (↑(bsI n.keys x.key))) rfl (fun w => (Step.move rfl)) ?_
   refine tP (Value.pointer (some ⟨b3, 1, none⟩)) rfl (fun w => sP) ?_
   refine tR (vI x.val) rfl (fun A w M => (Step.load1 Try.sc3 rfl ((M.cell 4 rfl 1).trans rfl))) ?_
   refine TW.new (obj := .cells #[(vS x.key)] 9) (fun b => .slice (some ⟨b, 0, none⟩) 1 1) rfl (by decide) (by decide) rfl (fun w => Step.make (by kernel_rfl)) (fun b61 => ?_)
   let Q : List Chunk := [bk b15 #[(vB n.leaf), kv5, dv6, vv7] 99, arenaC 143 145 S ab l, oH dv6 n.kids, oI vv7 n.vals, bk b3 #[(vS x.key), (vI x.val)] 41, bk b1 #[(vI h.at_), (vI h.turn)] 92]
   refine TW.callX (ι := Value) (fun jx v_ => v_ = jx) (fun jx => bk b61 #[(vS x.key)] 9 :: oS jx (insL n.keys (bsI n.keys x.key) x.key) :: Q) (fun jx => [bF tb #[(vP ab), (vI r.at_), (vI r.turn), (vB fu), (vI ln)] 94]) rfl (by decide) rfl (fun jx => (sN (sN (sY (sY (sY (sN (sY (sY sE))))))))) (fun jx r h => h) (fun A w M => have fq := M.frm [oS kv5 n.keys, bk b61 #[(vS x.key)] 9] (fl A :: Q) [4, 1, 0, 2, 3, 5, 6, 7, 8] rfl; Rets.mono (ins_str kv5 n.keys (bsI n.keys x.key) b61 x.key (by omega) (by omega) (M.eF fq trivial)) (fun v_ w_ ⟨v62, e_, m⟩ => ⟨v62, e_, (M.lF fq m).sel [2, 0, 1, 3, 4, 5, 6, 7, 8] rfl (by decide), fun b hb => M.kF fq m b hb⟩)) (fun w => CallsF.func Try.en85 rfl) (fun v62 v hp hin => ?_)
   replace hp := hp.symm; subst hp
   obtain ⟨_, _, hin⟩ := hin
   have sl63 : IsSl v62 := SlAt.isSl (own_slAt (Mem.chunk hin 2 rfl).inv)
   have hle64 := SlAt.le' (own_slAt (Mem.chunk hin 2 rfl).inv)
   clear hin
   refine tP (Value.pointer (some ⟨b15, 1, none⟩)) rfl (fun w => sP) ?_
   refine TW.new (obj := .cells #[(vI x.val)] 3) (fun b => .slice (some ⟨b, 0, none⟩) 1 1) rfl (by decide) (by decide) rfl (fun w => Step.make (by kernel_rfl)) (fun b65 => ?_)
   let Q : List Chunk := [bk b61 #[(vS x.key)] 9, oS v62 (insL n.keys (bsI n.keys x.key) x.key), bk b15 #[(vB n.leaf), kv5, dv6, vv7] 99, arenaC 143 145 S ab l, oH dv6 n.kids, bk b3 #[(vS x.key), (vI x.val)] 41, bk b1 #[(vI h.at_), (vI h.turn)] 92]
   refine TW.callX (ι := Value) (fun jx v_ => v_ = jx) (fun jx => bk b65 #[(vI x.val)] 3 :: oI jx (insL n.vals (bsI n.keys x.key) x.val) :: Q) (fun jx => [bF tb #[(vP ab), (vI r.at_), (vI r.turn), (vB fu), (vI ln)] 94]) rfl (by decide) rfl (fun jx => (sN (sN (sN (sN (sY (sY (sY (sY (sY sE)))))))))) (fun jx r h => h) (fun A w M => have fq := M.frm [oI vv7 n.vals, bk b65 #[(vI x.val)] 3] (fl A :: Q) [7, 1, 0, 2, 3, 4, 5, 6, 8, 9] rfl; Rets.mono (ins_int vv7 n.vals (bsI n.keys x.key) b65 x.val (by omega) (by omega) (M.eF fq trivial)) (fun v_ w_ ⟨v66, e_, m⟩ => ⟨v66, e_, (M.lF fq m).sel [2, 0, 1, 3, 4, 5, 6, 7, 8, 9] rfl (by decide), fun b hb => M.kF fq m b hb⟩)) (fun w => CallsF.func Try.en86 rfl) (fun v66 v hp hin => ?_)
   replace hp := hp.symm; subst hp
   obtain ⟨_, _, hin⟩ := hin
   have sl67 : IsSl v66 := SlAt.isSl (own_slAt (Mem.chunk hin 2 rfl).inv)
   have hle68 := SlAt.le' (own_slAt (Mem.chunk hin 2 rfl).inv)
   clear hin
   refine TW.turn _ _ (sY (sY (sY (sY (sN (sY (sY (sY (sY sE))))))))) (fun _ h => h) ?_
   refine TW.store (v := v62) (cs := [v62]) (c' := #[(vB n.leaf), v62, dv6, vv7]) 4 rfl rfl (by decide) rfl Try.el22.sized rfl rfl (IsSl.list sl63) rfl (Nat.le_of_ble_eq_true rfl) (cel_cons (IsSl.cel sl63) cel_nil) rfl rfl (sY (sY (sY (sY (sN (sY (sY (sY (sY sE))))))))) (fun r h => h) ?_
   refine tP (Value.pointer (some ⟨b15, 3, none⟩)) rfl (fun w => sP) ?_
   refine TW.store (v := v66) (cs := [v66]) (c' := #[(vB n.leaf), v62, dv6, v66]) 4 rfl rfl (by decide) rfl Try.el97.sized rfl rfl (IsSl.list sl67) rfl (Nat.le_of_ble_eq_true rfl) (cel_cons (IsSl.cel sl67) cel_nil) rfl rfl (sY (sY (sY (sY (sN (sY (sY (sY (sY sE))))))))) (fun r h => h) ?_
   refine TW.done (fun w71 M => ?_)
   refine W.seq' ?_
   replace M := M.loseI 7
   replace M := M.loseI 2
   replace M := M.loseI 0
   refine W.region rfl (wM (vI 0) (wM (vB false) (wM (vP tb) (wS (Value.agg #[(vI h.at_), (vI h.turn)]) rfl (Step.loadN Try.ag92 rfl (M.blk 5 rfl) (Nat.le_of_ble_eq_true rfl) rfl) (wS (Value.agg #[(vB n.leaf), v62, dv6, v66]) rfl (Step.loadN Try.ag99 rfl (M.blk 2 rfl) (Nat.le_of_ble_eq_true rfl) rfl) ?_)))))
   have fq := M.frm [arenaC 143 145 S ab l] [oI v66 (insL n.vals (bsI n.keys x.key) x.val), oS v62 (insL n.keys (bsI n.keys x.key) x.key), bk b15 #[(vB n.leaf), v62, dv6, v66] 99, oH dv6 n.kids, bk b1 #[(vI h.at_), (vI h.turn)] 92] [3, 0, 1, 2, 4, 5] rfl
   refine WL.callX rfl (tr_settle tb ab r fu ln l S h v62 dv6 v66 (⟨n.leaf, insL n.keys (bsI n.keys x.key) x.key, n.kids, insL n.vals (bsI n.keys x.key) x.val⟩ : Nd) (by assumption) (by first | assumption | omega | (simp only [List.length_nil, List.length_cons, List.length_take, List.length_drop, List.length_append, List.length_set, insL]; omega)) (by first | assumption | (intro h_; simp only [List.length_nil, List.length_cons, List.length_take, List.length_drop, List.length_append, List.length_set, insL]; omega) | (intro h_; simp_all; done)) (by simp [insL] <;> omega) (by simp [insL] <;> omega) (by simp [insL] <;> omega) (M.eF fq ⟨(M.rF fq 0 rfl), ((M.cF fq 1 rfl).imp fun _ h => own_slAt h), ((M.cF fq 3 rfl).imp fun _ h => own_slAt h), ((M.cF fq 0 rfl).imp fun _ h => own_slAt h), trivial⟩)) (CallsF.func Try.en88 rfl) ?_
   rintro u72 w74 ⟨_, S73, rfl, m⟩
   replace M := M.lF fq m
   clear m
   refine wA (vI 0) (wA (vB false) (wA u72 (WL.nil ?_)))
   refine W.ret ?_
   refine ⟨.inl rfl, (Value.tuple #[(vI 0), (vB false), u72]), ?_, ?_⟩
   · exact ⟨rfl, (Res.r3 (show RV _ _ _ (.tmp 6) (vI 0) from by exact rfl) (show RV _ _ _ (.tmp 7) (vB false) from by exact rfl) (show RV _ _ _ (.tmp 8) u72 from by exact rfl))⟩
   have e75 : (insF d l h x).1 = (settleF l h (⟨n.leaf, insL n.keys (bsI n.keys x.key) x.key, n.kids, insL n.vals (bsI n.keys x.key) x.val⟩ : Nd)).1 := by
    rw [insF_leaf hn h19 h32]
    try rfl
   replace M := M.rechunk 0 (c' := arenaC 143 145 S73 ab ((insF d l h x).1)) rfl (congrArg (fun z => arenaC 143 145 S73 ab z) e75.symm)
   have e76 : (insF d l h x).2.2 = (settleF l h (⟨n.leaf, insL n.keys (bsI n.keys x.key) x.key, n.kids, insL n.vals (bsI n.keys x.key) x.val⟩ : Nd)).2 := by
    rw [insF_leaf hn h19 h32]
    try rfl
   replace M := M.rechunk 1 (c' := upC 104 u72 ((insF d l h x).2.2)) rfl (congrArg (fun z => upC 104 u72 z) e76.symm)
   refine ⟨u72, S73, ?_, M.close [0, 1] rfl (by decide) trivial⟩
   rw [insF_leaf hn h19 h32]
   try rfl
  ·
   obtain ⟨e, rfl, hkl_, hO2, hS2⟩ := insOk_kid hO hn h19 h32
   refine W.seq' ?_
   obtain ⟨cap78, hb77⟩ := SlAt.base (own_slAt (M.chunk 3 rfl).inv) (by omega)
   obtain ⟨x79, hx79⟩ := elem_of_lt (xs := n.kids) (i := bsI n.keys x.key) (by omega)
   have hgd_ : n.kids.getD (bsI n.keys x.key) hdZero = x79 := by rw [List.getD_eq_getElem?_getD, hx79]; rfl
   rw [hgd_] at hO2 hS2
   refine W.drawn M [0, 1, 2, 3, 4, 5, 6, 7, 8, 9, 10, 11, 12, 13, 14] [7] [] _ _ (sY (sN (sY (sY (sY (sY (sY sE))))))) (fun _ h => h) Try.mixed (by kernel_rfl) ?_
   refine tP (vP tb) rfl (fun w => (Step.move rfl)) ?_
   refine tP (Value.pointer (some ⟨b15, 2, none⟩)) rfl (fun w => sP) ?_
   refine tR dv6 rfl (fun A w M => (Step.load1 Try.sc96 rfl ((M.cell 1 rfl 2).trans rfl))) ?_
   refine tP (vI (↑(bsI n.keys x.key))) rfl (fun w => (Step.move rfl)) ?_
   refine tP (vQ dv6 (bsI n.keys x.key) 2) rfl (fun w => (sX (bsI n.keys x.key) Try.un96 Try.el92 rfl rfl hb77)) ?_
   refine tR (Value.agg #[(vI x79.at_), (vI x79.turn)]) rfl (fun A w M => (Step.loadEN (k := 0) (cs' := [(vI x79.at_), (vI x79.turn)]) Try.ag92 (flat_ec (own_slAt (M.chunk 3 rfl).inv) hx79 handleE_len) (by decide) rfl rfl rfl)) ?_
   refine tR (Value.agg #[(vS x.key), (vI x.val)]) rfl (fun A w M => (Step.loadN Try.ag41 rfl (M.blk 5 rfl) (Nat.le_of_ble_eq_true rfl) rfl)) ?_
   let Q : List Chunk := [bk b15 #[(vB n.leaf), kv5, dv6, vv7] 99, oS kv5 n.keys, oH dv6 n.kids, oI vv7 n.vals, bk b3 #[(vS x.key), (vI x.val)] 41, bk b1 #[(vI h.at_), (vI h.turn)] 92]
   refine TW.callX (ι := Value × (Nat → Prop)) (fun jx v_ => v_ = (Value.tuple #[(vI ((insF e l x79 x).2.1.1)), (vB ((insF e l x79 x).2.1.2)), jx.1])) (fun jx => arenaC 143 145 jx.2 ab ((insF e l x79 x).1) :: upC 104 jx.1 ((insF e l x79 x).2.2) :: Q) (fun jx => [bF tb #[(vP ab), (vI r.at_), (vI r.turn), (vB fu), (vI ln)] 94]) rfl (by decide) rfl (fun jx => (sN (sN (sY (sY (sY (sY (sY (sY sE))))))))) (fun jx r h => h) (fun A w M => have fq := M.frm [arenaC 143 145 S ab l] (fl A :: Q) [2, 0, 1, 3, 4, 5, 6, 7] rfl; Rets.mono (ih e (by omega) tb ab r fu ln l S x79 x (by assumption) (M.eF fq ⟨(M.rF fq 0 rfl), trivial⟩)) (fun v_ w_ ⟨u84, S85, e_, m⟩ => ⟨(u84, S85), e_, (M.lF fq m).sel [2, 0, 1, 3, 4, 5, 6, 7, 8] rfl (by decide), fun b hb => M.kF fq m b hb⟩)) (fun w => CallsF.func Try.en47 rfl) (fun jx v hp hin => ?_)
   obtain ⟨u84, S85⟩ := jx
   replace hp := hp.symm; subst hp
   obtain ⟨_, _, hin⟩ := hin
   clear hin
   refine tP (Value.tuple #[(vI ((insF e l x79 x).2.1.1)), (vB ((insF e l x79 x).2.1.2)), u84]) rfl (fun w => (Step.move rfl)) ?_
   refine tP (vI ((insF e l x79 x).2.1.1)) rfl (fun w => sP) ?_
   refine tP (vB ((insF e l x79 x).2.1.2)) rfl (fun w => sP) ?_
   refine tP u84 rfl (fun w => sP) ?_
   refine tP (vI ((insF e l x79 x).2.1.1)) rfl (fun w => (Step.assign rfl)) ?_
   refine tP (vB ((insF e l x79 x).2.1.2)) rfl (fun w => (Step.assign rfl)) ?_
   refine tP u84 rfl (fun w => (Step.assign rfl)) ?_
   refine TW.done (fun w86 M => ?_)
   refine W.seq' (W.seq' ?_)
   rcases ho_ : (insF e l x79 x).2.2 with _ | u_
   ·
    rw [ho_] at M
    obtain rfl := M.upNone 1 rfl
    replace M := M.sel (L' := [arenaC 143 145 S85 ab ((insF e l x79 x).1), bk b15 #[(vB n.leaf), kv5, dv6, vv7] 99, oS kv5 n.keys, oH dv6 n.kids, oI vv7 n.vals, bk b3 #[(vS x.key), (vI x.val)] 41, bk b1 #[(vI h.at_), (vI h.turn)] 92]) [0, 2, 3, 4, 5, 6, 7] rfl (by decide)
    refine W.region rfl (wM vN (wP (vB true) (WL.nil ?_)))
    refine W.cond (t := true) rfl (fun _ => ?_) (fun h => by cases h)
    refine wR (wM (vI ((insF e l x79 x).2.1.1)) (wM (vB ((insF e l x79 x).2.1.2)) (wA (vI ((insF e l x79 x).2.1.1)) (wA (vB ((insF e l x79 x).2.1.2)) (wA vN ?_)))))
    refine WL.nil ?_
    refine W.ret ?_
    refine ⟨.inl rfl, (Value.tuple #[(vI ((insF e l x79 x).2.1.1)), (vB ((insF e l x79 x).2.1.2)), vN]), ?_, ?_⟩
    · exact ⟨rfl, (Res.r3 (show RV _ _ _ (.tmp 6) (vI ((insF e l x79 x).2.1.1)) from by exact rfl) (show RV _ _ _ (.tmp 7) (vB ((insF e l x79 x).2.1.2)) from by exact rfl) (show RV _ _ _ (.tmp 8) vN from by exact rfl))⟩
    have hup_ : (insF (e + 1) l h x).2.2 = none := by
     rw [insF_none hn h19 h32 (by rw [hgd_]; exact ho_)]
     try rw [hgd_]
    replace M := M.mkNone (e := 104) (o := (insF (e + 1) l h x).2.2) hup_
    have e88 : (insF (e + 1) l h x).1 = (insF e l x79 x).1 := by
     rw [insF_none hn h19 h32 (by rw [hgd_]; exact ho_)]
     try rw [hgd_]
     try rfl
    replace M := M.rechunk 1 (c' := arenaC 143 145 S85 ab ((insF (e + 1) l h x).1)) rfl (congrArg (fun z => arenaC 143 145 S85 ab z) e88.symm)
    refine ⟨vN, S85, ?_, M.close [1, 0] rfl (by decide) trivial⟩
    rw [insF_none hn h19 h32 (by rw [hgd_]; exact ho_)]
    try rw [hgd_]
    try rfl
   ·
    rw [ho_] at M
    obtain ⟨b87, rfl, M⟩ := M.upSome 1 rfl
    refine W.region rfl (wM (vP b87) (wP (vB false) (WL.nil ?_)))
    refine W.cond (t := false) rfl (fun h => by cases h) (fun _ => ?_)
    refine W.skip (W.seq' ?_)
    replace M := M.loseI 6
    refine W.drawn2 M [0, 1, 2, 3, 4, 5, 6, 7, 10, 11, 12, 13, 14, 15, 16, 17, 8, 9, 20, 18, 19] [21, 22, 23] [9, 19, 21, 23] [8, 18] _ _ (sY (sY (sY (sN (sY (sN (sY sE))))))) (fun _ h => h) Try.mixed (by kernel_rfl) ?_
    refine tP (Value.pointer (some ⟨b15, 1, none⟩)) rfl (fun w => sP) ?_
    refine tR kv5 rfl (fun A w M => (Step.load1 Try.sc22 rfl ((M.cell 3 rfl 1).trans rfl))) ?_
    refine tP (vI (↑(bsI n.keys x.key))) rfl (fun w => (Step.move rfl)) ?_
    refine tP (vP b87) rfl (fun w => (Step.move rfl)) ?_
    refine tP (vP b87) rfl (fun w => sP) ?_
    refine tP (vP b87) rfl (fun w => sP) ?_
    refine tP (vP b87) rfl (fun w => sP) ?_
    refine tR (vS u_.1.key) rfl (fun A w M => (Step.load1 Try.sc9 rfl ((M.cell 2 rfl 0).trans rfl))) ?_
    refine tP (Value.pointer (some ⟨b15, 3, none⟩)) rfl (fun w => sP) ?_
    refine tR vv7 rfl (fun A w M => (Step.load1 Try.sc97 rfl ((M.cell 3 rfl 3).trans rfl))) ?_
    refine tP (vI (↑(bsI n.keys x.key))) rfl (fun w => (Step.move rfl)) ?_
    refine tP (vP b87) rfl (fun w => (Step.move rfl)) ?_
    refine tP (vP b87) rfl (fun w => sP) ?_
    refine tP (vP b87) rfl (fun w => sP) ?_
    refine tP (Value.pointer (some ⟨b87, 1, none⟩)) rfl (fun w => sP) ?_
    refine tR (vI u_.1.val) rfl (fun A w M => (Step.load1 Try.sc3 rfl ((M.cell 2 rfl 1).trans rfl))) ?_
    refine TW.new (obj := .cells #[(vS u_.1.key)] 9) (fun b => .slice (some ⟨b, 0, none⟩) 1 1) rfl (by decide) (by decide) rfl (fun w => Step.make (by kernel_rfl)) (fun b117 => ?_)
    let Q : List Chunk := [arenaC 143 145 S85 ab ((insF e l x79 x).1), bk b87 #[(vS u_.1.key), (vI u_.1.val), (vI u_.2.at_), (vI u_.2.turn)] 104, bk b15 #[(vB n.leaf), kv5, dv6, vv7] 99, oH dv6 n.kids, oI vv7 n.vals, bk b1 #[(vI h.at_), (vI h.turn)] 92]
    refine TW.callX (ι := Value) (fun jx v_ => v_ = jx) (fun jx => bk b117 #[(vS u_.1.key)] 9 :: oS jx (insL n.keys (bsI n.keys x.key) u_.1.key) :: Q) (fun jx => [bF tb #[(vP ab), (vI r.at_), (vI r.turn), (vB fu), (vI ln)] 94]) rfl (by decide) rfl (fun jx => (sN (sN (sY (sY (sY (sY (sN (sY sE))))))))) (fun jx r h => h) (fun A w M => have fq := M.frm [oS kv5 n.keys, bk b117 #[(vS u_.1.key)] 9] (fl A :: Q) [5, 1, 0, 2, 3, 4, 6, 7, 8] rfl; Rets.mono (ins_str kv5 n.keys (bsI n.keys x.key) b117 u_.1.key (by omega) (by omega) (M.eF fq trivial)) (fun v_ w_ ⟨v118, e_, m⟩ => ⟨v118, e_, (M.lF fq m).sel [2, 0, 1, 3, 4, 5, 6, 7, 8] rfl (by decide), fun b hb => M.kF fq m b hb⟩)) (fun w => CallsF.func Try.en85 rfl) (fun v118 v hp hin => ?_)
    replace hp := hp.symm; subst hp
    obtain ⟨_, _, hin⟩ := hin
    have sl119 : IsSl v118 := SlAt.isSl (own_slAt (Mem.chunk hin 2 rfl).inv)
    have hle120 := SlAt.le' (own_slAt (Mem.chunk hin 2 rfl).inv)
    clear hin
    refine tP (Value.pointer (some ⟨b15, 1, none⟩)) rfl (fun w => sP) ?_
    refine TW.new (obj := .cells #[(vI u_.1.val)] 3) (fun b => .slice (some ⟨b, 0, none⟩) 1 1) rfl (by decide) (by decide) rfl (fun w => Step.make (by kernel_rfl)) (fun b121 => ?_)
    let Q : List Chunk := [bk b117 #[(vS u_.1.key)] 9, oS v118 (insL n.keys (bsI n.keys x.key) u_.1.key), arenaC 143 145 S85 ab ((insF e l x79 x).1), bk b87 #[(vS u_.1.key), (vI u_.1.val), (vI u_.2.at_), (vI u_.2.turn)] 104, bk b15 #[(vB n.leaf), kv5, dv6, vv7] 99, oH dv6 n.kids, bk b1 #[(vI h.at_), (vI h.turn)] 92]
    refine TW.callX (ι := Value) (fun jx v_ => v_ = jx) (fun jx => bk b121 #[(vI u_.1.val)] 3 :: oI jx (insL n.vals (bsI n.keys x.key) u_.1.val) :: Q) (fun jx => [bF tb #[(vP ab), (vI r.at_), (vI r.turn), (vB fu), (vI ln)] 94]) rfl (by decide) rfl (fun jx => (sN (sN (sN (sN (sY (sY (sY (sY (sY sE)))))))))) (fun jx r h => h) (fun A w M => have fq := M.frm [oI vv7 n.vals, bk b121 #[(vI u_.1.val)] 3] (fl A :: Q) [8, 1, 0, 2, 3, 4, 5, 6, 7, 9] rfl; Rets.mono (ins_int vv7 n.vals (bsI n.keys x.key) b121 u_.1.val (by omega) (by omega) (M.eF fq trivial)) (fun v_ w_ ⟨v122, e_, m⟩ => ⟨v122, e_, (M.lF fq m).sel [2, 0, 1, 3, 4, 5, 6, 7, 8, 9] rfl (by decide), fun b hb => M.kF fq m b hb⟩)) (fun w => CallsF.func Try.en86 rfl) (fun v122 v hp hin => ?_)
    replace hp := hp.symm; subst hp
    obtain ⟨_, _, hin⟩ := hin
    have sl123 : IsSl v122 := SlAt.isSl (own_slAt (Mem.chunk hin 2 rfl).inv)
    have hle124 := SlAt.le' (own_slAt (Mem.chunk hin 2 rfl).inv)
    clear hin
    refine TW.turn _ _ (sY (sY (sY (sY (sY (sY (sN (sY (sY sE))))))))) (fun _ h => h) ?_
    refine TW.store (v := v118) (cs := [v118]) (c' := #[(vB n.leaf), v118, dv6, vv7]) 6 rfl rfl (by decide) rfl Try.el22.sized rfl rfl (IsSl.list sl119) rfl (Nat.le_of_ble_eq_true rfl) (cel_cons (IsSl.cel sl119) cel_nil) rfl rfl (sY (sY (sY (sY (sY (sY (sN (sY (sY sE))))))))) (fun r h => h) ?_
    refine tP (Value.pointer (some ⟨b15, 3, none⟩)) rfl (fun w => sP) ?_
    refine TW.store (v := v122) (cs := [v122]) (c' := #[(vB n.leaf), v118, dv6, v122]) 6 rfl rfl (by decide) rfl Try.el97.sized rfl rfl (IsSl.list sl123) rfl (Nat.le_of_ble_eq_true rfl) (cel_cons (IsSl.cel sl123) cel_nil) rfl rfl (sY (sY (sY (sY (sY (sY (sN (sY (sY sE))))))))) (fun r h => h) ?_
    refine TW.done (fun w127 M => ?_)
    replace M := M.loseI 2
    replace M := M.loseI 0
    refine W.drawn2 M [0, 1, 2, 3, 4, 5, 6, 7, 8] [9, 10, 11] [9, 11] [8] _ _ (sY (sY (sY (sY (sY (sY (sY sE))))))) (fun _ h => h) Try.mixed (by kernel_rfl) ?_
    refine tP (Value.pointer (some ⟨b15, 2, none⟩)) rfl (fun w => sP) ?_
    refine tR dv6 rfl (fun A w M => (Step.load1 Try.sc96 rfl ((M.cell 5 rfl 2).trans rfl))) ?_
    refine tP (vI (↑(bsI n.keys x.key))) rfl (fun w => (Step.move rfl)) ?_
    refine tP (vI (↑((bsI n.keys x.key) + 1))) rfl (fun w => (Step.cast (congrArg (Value.int .i64) (show (↑(bsI n.keys x.key) + 1 : Int) = ↑((bsI n.keys x.key) + 1) by omega)) (Step.add rfl rfl (wrap_i64 (by omega))))) ?_
    refine tP (vP b87) rfl (fun w => (Step.move rfl)) ?_
    refine tP (vP b87) rfl (fun w => sP) ?_
    refine tP (Value.pointer (some ⟨b87, 2, none⟩)) rfl (fun w => sP) ?_
    refine tR (Value.agg #[(vI u_.2.at_), (vI u_.2.turn)]) rfl (fun A w M => (Step.loadN Try.ag92 rfl (M.blk 4 rfl) (Nat.le_of_ble_eq_true rfl) rfl)) ?_
    refine TW.new (obj := .cells #[(vI u_.2.at_), (vI u_.2.turn)] 92) (fun b => .slice (some ⟨b, 0, none⟩) 1 1) rfl (by decide) (by decide) rfl (fun w => Step.make (by kernel_rfl)) (fun b140 => ?_)
    refine TW.turn _ _ (sN (sY (sY (sY (sY (sN (sN (sY sE)))))))) (fun _ h => h) ?_
    let Q : List Chunk := [oI v122 (insL n.vals (bsI n.keys x.key) u_.1.val), oS v118 (insL n.keys (bsI n.keys x.key) u_.1.key), arenaC 143 145 S85 ab ((insF e l x79 x).1), bk b87 #[(vS u_.1.key), (vI u_.1.val), (vI u_.2.at_), (vI u_.2.turn)] 104, bk b15 #[(vB n.leaf), v118, dv6, v122] 99, bk b1 #[(vI h.at_), (vI h.turn)] 92]
    refine TW.callX (ι := Value) (fun jx v_ => v_ = jx) (fun jx => bk b140 #[(vI u_.2.at_), (vI u_.2.turn)] 92 :: oH jx (insL n.kids ((bsI n.keys x.key) + 1) u_.2) :: Q) (fun jx => [bF tb #[(vP ab), (vI r.at_), (vI r.turn), (vB fu), (vI ln)] 94]) rfl (by decide) rfl (fun jx => (sN (sN (sY (sY (sY (sY (sN (sY sE))))))))) (fun jx r h => h) (fun A w M => have fq := M.frm [oH dv6 n.kids, bk b140 #[(vI u_.2.at_), (vI u_.2.turn)] 92] (fl A :: Q) [7, 1, 0, 2, 3, 4, 5, 6, 8] rfl; Rets.mono (ins_hdl dv6 n.kids ((bsI n.keys x.key) + 1) b140 u_.2 (by omega) (by omega) (M.eF fq trivial)) (fun v_ w_ ⟨v143, e_, m⟩ => ⟨v143, e_, (M.lF fq m).sel [2, 0, 1, 3, 4, 5, 6, 7, 8] rfl (by decide), fun b hb => M.kF fq m b hb⟩)) (fun w => CallsF.func Try.en87 rfl) (fun v143 v hp hin => ?_)
    replace hp := hp.symm; subst hp
    obtain ⟨_, _, hin⟩ := hin
    have sl144 : IsSl v143 := SlAt.isSl (own_slAt (Mem.chunk hin 2 rfl).inv)
    have hle145 := SlAt.le' (own_slAt (Mem.chunk hin 2 rfl).inv)
    clear hin
    refine tP (Value.pointer (some ⟨b15, 2, none⟩)) rfl (fun w => sP) ?_
    refine TW.store (v := v143) (cs := [v143]) (c' := #[(vB n.leaf), v118, v143, v122]) 6 rfl rfl (by decide) rfl Try.el96.sized rfl rfl (IsSl.list sl144) rfl (Nat.le_of_ble_eq_true rfl) (cel_cons (IsSl.cel sl144) cel_nil) rfl rfl (sN (sN (sY (sY (sY (sY (sN (sY sE)))))))) (fun r h => h) ?_
    refine TW.done (fun w146 M => ?_)
    refine W.seq' ?_
    replace M := M.loseI 0
    refine W.region rfl (wM (vI ((insF e l x79 x).2.1.1)) (wM (vB ((insF e l x79 x).2.1.2)) (wM (vP tb) (wS (Value.agg #[(vI h.at_), (vI h.turn)]) rfl (Step.loadN Try.ag92 rfl (M.blk 6 rfl) (Nat.le_of_ble_eq_true rfl) rfl) (wS (Value.agg #[(vB n.leaf), v118, v143, v122]) rfl (Step.loadN Try.ag99 rfl (M.blk 5 rfl) (Nat.le_of_ble_eq_true rfl) rfl) ?_)))))
    have fq := M.frm [arenaC 143 145 S85 ab ((insF e l x79 x).1)] [oH v143 (insL n.kids ((bsI n.keys x.key) + 1) u_.2), oI v122 (insL n.vals (bsI n.keys x.key) u_.1.val), oS v118 (insL n.keys (bsI n.keys x.key) u_.1.key), bk b87 #[(vS u_.1.key), (vI u_.1.val), (vI u_.2.at_), (vI u_.2.turn)] 104, bk b15 #[(vB n.leaf), v118, v143, v122] 99, bk b1 #[(vI h.at_), (vI h.turn)] 92] [3, 0, 1, 2, 4, 5, 6] rfl
    refine WL.callX rfl (tr_settle tb ab r fu ln ((insF e l x79 x).1) S85 h v118 v143 v122 (⟨n.leaf, insL n.keys (bsI n.keys x.key) u_.1.key, insL n.kids ((bsI n.keys x.key) + 1) u_.2, insL n.vals (bsI n.keys x.key) u_.1.val⟩ : Nd) (by first | assumption | exact smallA_of rfl) (by first | assumption | omega | (simp only [List.length_nil, List.length_cons, List.length_take, List.length_drop, List.length_append, List.length_set, insL]; omega)) (by first | assumption | (intro h_; simp only [List.length_nil, List.length_cons, List.length_take, List.length_drop, List.length_append, List.length_set, insL]; omega) | (intro h_; simp_all; done)) (by simp [insL] <;> omega) (by simp [insL] <;> omega) (by simp [insL] <;> omega) (M.eF fq ⟨(M.rF fq 0 rfl), ((M.cF fq 2 rfl).imp fun _ h => own_slAt h), ((M.cF fq 0 rfl).imp fun _ h => own_slAt h), ((M.cF fq 1 rfl).imp fun _ h => own_slAt h), trivial⟩)) (CallsF.func Try.en88 rfl) ?_
    rintro u147 w149 ⟨_, S148, rfl, m⟩
    replace M := M.lF fq m
    clear m
    refine wA (vI ((insF e l x79 x).2.1.1)) (wA (vB ((insF e l x79 x).2.1.2)) (wA u147 (WL.nil ?_)))
    refine W.ret ?_
    refine ⟨.inl rfl, (Value.tuple #[(vI ((insF e l x79 x).2.1.1)), (vB ((insF e l x79 x).2.1.2)), u147]), ?_, ?_⟩
    · exact ⟨rfl, (Res.r3 (show RV _ _ _ (.tmp 6) (vI ((insF e l x79 x).2.1.1)) from by exact rfl) (show RV _ _ _ (.tmp 7) (vB ((insF e l x79 x).2.1.2)) from by exact rfl) (show RV _ _ _ (.tmp 8) u147 from by exact rfl))⟩
    have e150 : (insF (e + 1) l h x).1 = (settleF ((insF e l x79 x).1) h (⟨n.leaf, insL n.keys (bsI n.keys x.key) u_.1.key, insL n.kids ((bsI n.keys x.key) + 1) u_.2, insL n.vals (bsI n.keys x.key) u_.1.val⟩ : Nd)).1 := by
     rw [insF_some hn h19 h32 (by rw [hgd_]; exact ho_)]
     try rw [hgd_]
     try rfl
    replace M := M.rechunk 0 (c' := arenaC 143 145 S148 ab ((insF (e + 1) l h x).1)) rfl (congrArg (fun z => arenaC 143 145 S148 ab z) e150.symm)
    have e151 : (insF (e + 1) l h x).2.2 = (settleF ((insF e l x79 x).1) h (⟨n.leaf, insL n.keys (bsI n.keys x.key) u_.1.key, insL n.kids ((bsI n.keys x.key) + 1) u_.2, insL n.vals (bsI n.keys x.key) u_.1.val⟩ : Nd)).2 := by
     rw [insF_some hn h19 h32 (by rw [hgd_]; exact ho_)]
     try rw [hgd_]
     try rfl
    replace M := M.rechunk 1 (c' := upC 104 u147 ((insF (e + 1) l h x).2.2)) rfl (congrArg (fun z => upC 104 u147 z) e151.symm)
    refine ⟨u147, S148, ?_, M.close [0, 1] rfl (by decide) trivial⟩
    rw [insF_some hn h19 h32 (by rw [hgd_]; exact ho_)]
    try rw [hgd_]
    try rfl
end Go.Proofs
set_option maxRecDepth 100000
namespace Go.Proofs
open Go Tp
theorem Try.el41 : Elem Try.prog 41 (Value.agg #[(vS sZ), (vI 0)]) 2 24 := Elem.mk (by kernel_rfl)
theorem Try.en91 : Enters Try.prog 91 := fun _ _ => by kernel_rfl
theorem tr_last : ∀ (d : Nat) {G X : Nat → Prop} {w : World} (tb ab : Nat) (r : Handle) (fu : Bool) (ln : Int) (l : List RPlace) (S : Nat → Prop) (h : Handle)  (hA : SmallA l) (hO : lastOk d l h) (M : Mem G X w [arenaC 143 145 S ab l] [bF tb #[(vP ab), (vI r.at_), (vI r.turn), (vB fu), (vI ln)] 94] w), Rets Try.prog 91 #[(vP tb), (Value.agg #[(vI h.at_), (vI h.turn)])] w fun r w' => r = (Value.agg #[(vS ((lastF d l h).key)), (vI ((lastF d l h).val))]) ∧ Mem G X w [arenaC 143 145 S ab l] [] w' := by
 intro d
 induction d using Nat.strongRecOn
 rename_i d ih
 intro G X w tb ab r fu ln l S h hA hO M
 refine Rets.enter 39 _ Try.func91 rfl Try.ntmps91 Try.results91 (by simp) ?_
 obtain ⟨n, hn⟩ : ∃ n, (rget l h).1 = n := ⟨_, rfl⟩
 obtain ⟨hty, hvl, hk0_⟩ := lastOk_node hO hn
 obtain ⟨ht1, ht2, ht3⟩ := hty
 refine wR ?_
 refine WL.box (v := (Value.agg #[(vI h.at_), (vI h.turn)])) (c := #[(vI h.at_), (vI h.turn)]) M rfl rfl rfl (fun b1 w2 hb1 M => ?_)
 refine WL.alloc (c := #[(vS sZ), (vI 0)]) M rfl Try.el41.zero rfl (fun b3 w4 hb3 M => ?_)
 refine WL.nil (wR (wM (vP tb) (wS (Value.agg #[(vI h.at_), (vI h.turn)]) rfl (Step.loadN Try.ag92 rfl (M.blk 1 rfl) (Nat.le_of_ble_eq_true rfl) rfl) ?_)))
 have fq := M.frm [arenaC 143 145 S ab l] [bk b3 #[(vS sZ), (vI 0)] 41, bk b1 #[(vI h.at_), (vI h.turn)] 92] [2, 0, 1] rfl
 refine WL.callX rfl (tr_node tb ab r fu ln l S h (by assumption) n hn (M.eF fq ⟨(M.rF fq 0 rfl), trivial⟩)) (CallsF.func Try.en49 rfl) ?_
 rintro _ w8 ⟨kv5, dv6, vv7, rfl, m⟩
 replace M := M.lF fq m
 clear m
 have sl9 : IsSl kv5 := SlAt.isSl (own_slAt (Mem.chunk M 1 rfl).inv)
 have hle10 := SlAt.le' (own_slAt (Mem.chunk M 1 rfl).inv)
 have sl11 : IsSl dv6 := SlAt.isSl (own_slAt (Mem.chunk M 2 rfl).inv)
 have hle12 := SlAt.le' (own_slAt (Mem.chunk M 2 rfl).inv)
 have sl13 : IsSl vv7 := SlAt.isSl (own_slAt (Mem.chunk M 3 rfl).inv)
 have hle14 := SlAt.le' (own_slAt (Mem.chunk M 3 rfl).inv)
 refine WL.alloc (c := #[(vB false), vZ, vZ, vZ]) M rfl Try.el99.zero rfl (fun b15 w16 hb15 M => ?_)
 refine WL.store (v := (Value.agg #[(vB n.leaf), kv5, dv6, vv7])) (cs := [(vB n.leaf), kv5, dv6, vv7]) (c' := #[(vB n.leaf), kv5, dv6, vv7]) M 0 rfl rfl Try.el99.sized rfl rfl rfl rfl (Nat.le_of_ble_eq_true rfl) (cel_cons rfl (cel_cons (IsSl.cel sl9) (cel_cons (IsSl.cel sl11) (cel_cons (IsSl.cel sl13) cel_nil)))) rfl rfl (fun w17 M => ?_)
 refine WL.nil (W.seq' (wR (wP (vP b15) (wS (vB n.leaf) rfl (Step.load1 Try.sc4 rfl ((M.cell 0 rfl 0).trans rfl)) (wP (vB !n.leaf) ?_)))))
 refine WL.nil ?_
 refine W.cond (t := !n.leaf) rfl (fun h18 => ?_) (fun h18 => ?_)
 ·
  have hlf_ : n.leaf = false := by simpa using h18
  obtain ⟨e, rfl, hk1_, hO2⟩ := lastOk_kid hO hn hlf_
  refine W.seq' ?_
  replace M := M.loseI 6
  refine W.region rfl (wM (vP tb) (wP (Value.pointer (some ⟨b15, 2, none⟩)) (wS dv6 rfl (Step.load1 Try.sc96 rfl ((M.cell 0 rfl 2).trans rfl)) (wP (Value.pointer (some ⟨b15, 2, none⟩)) (wS dv6 rfl (Step.load1 Try.sc96 rfl ((M.cell 0 rfl 2).trans rfl)) ?_)))))
  refine wS (vI ↑n.kids.length) rfl (Step.lenSl Try.un96 rfl (own_slAt (M.chunk 3 rfl).inv)) (wS (vI (↑(n.kids.length - 1))) rfl (Step.cast (congrArg (Value.int .i64) (show ((↑n.kids.length : Int) - 1 : Int) = ↑(n.kids.length - 1) by omega)) (Step.sub rfl rfl (wrap_i64 (by omega)))) ?_)
  obtain ⟨cap20, hb19⟩ := SlAt.base (own_slAt (M.chunk 3 rfl).inv) (by omega)
  obtain ⟨x21, hx21⟩ := elem_of_lt (xs := n.kids) (i := n.kids.length - 1) (by omega)
  have hgd_ : n.kids.getD (n.kids.length - 1) hdZero = x21 := by rw [List.getD_eq_getElem?_getD, hx21]; rfl
  rw [hgd_] at hO2
  refine wS (vQ dv6 (n.kids.length - 1) 2) rfl (sX (n.kids.length - 1) Try.un96 Try.el92 rfl rfl hb19) (wS (Value.agg #[(vI x21.at_), (vI x21.turn)]) rfl (Step.loadEN (k := 0) (cs' := [(vI x21.at_), (vI x21.turn)]) Try.ag92 (flat_ec (own_slAt (M.chunk 3 rfl).inv) hx21 handleE_len) (by decide) rfl rfl rfl) ?_)
  have fq := M.frm [arenaC 143 145 S ab l] [bk b15 #[(vB n.leaf), kv5, dv6, vv7] 99, oS kv5 n.keys, oH dv6 n.kids, oI vv7 n.vals, bk b3 #[(vS sZ), (vI 0)] 41] [1, 0, 2, 3, 4, 5] rfl
  refine WL.callX rfl (ih e (by omega) tb ab r fu ln l S x21 (by assumption) (by assumption) (M.eF fq ⟨(M.rF fq 0 rfl), trivial⟩)) (CallsF.func Try.en91 rfl) ?_
  rintro _ w22 ⟨rfl, m⟩
  replace M := M.lF fq m
  clear m
  refine WL.store (v := (Value.agg #[(vS ((lastF e l x21).key)), (vI ((lastF e l x21).val))])) (cs := [(vS ((lastF e l x21).key)), (vI ((lastF e l x21).val))]) (c' := #[(vS ((lastF e l x21).key)), (vI ((lastF e l x21).val))]) M 5 rfl rfl Try.el41.sized rfl rfl rfl rfl (Nat.le_of_ble_eq_true rfl) (cel_cons rfl (cel_cons rfl cel_nil)) rfl rfl (fun w23 M => ?_)
  refine WL.nil ?_
  refine W.ret ?_
  refine ⟨.inl rfl, (Value.agg #[(vS ((lastF e l x21).key)), (vI ((lastF e l x21).val))]), ?_, ?_⟩
  · exact ⟨rfl, (Res.r1 (RV.cellN Try.ag41 rfl (M.blk 5 rfl) rfl))⟩
  refine ⟨?_, M.close [0] rfl (by decide) trivial⟩
  rw [lastF_kid hn hlf_, hgd_]
 ·
  have hlf_ : n.leaf = true := by simpa using h18
  refine W.skip (W.seq' ?_)
  replace M := M.loseI 6
  obtain ⟨cap25, hb24⟩ := SlAt.base (own_slAt (M.chunk 2 rfl).inv) (by omega)
  obtain ⟨x26, hx26⟩ := elem_of_lt (xs := n.keys) (i := n.keys.length - 1) (by omega)
  obtain ⟨cap28, hb27⟩ := SlAt.base (own_slAt (M.chunk 4 rfl).inv) (by omega)
  obtain ⟨x29, hx29⟩ := elem_of_lt (xs := n.vals) (i := n.vals.length - 1) (by omega)
  refine W.drawn M [0, 1, 2, 3, 4, 5, 6, 7, 8, 9, 10, 11, 12, 13, 14, 15, 16, 17] [17] [] _ _ (sY (sY (sY (sY (sY (sN sE)))))) (fun _ h => h) Try.mixed (by kernel_rfl) ?_
  refine tP (Value.pointer (some ⟨b15, 1, none⟩)) rfl (fun w => sP) ?_
  refine tR kv5 rfl (fun A w M => (Step.load1 Try.sc22 rfl ((M.cell 1 rfl 1).trans rfl))) ?_
  refine tP (Value.pointer (some ⟨b15, 1, none⟩)) rfl (fun w => sP) ?_
  refine tR kv5 rfl (fun A w M => (Step.load1 Try.sc22 rfl ((M.cell 1 rfl 1).trans rfl))) ?_
  refine tR (vI ↑n.keys.length) rfl (fun A w M => (Step.lenSl Try.un22 rfl (own_slAt (M.chunk 3 rfl).inv))) ?_
  refine tP (vI (↑(n.keys.length - 1))) rfl (fun w => (Step.cast (congrArg (Value.int .i64) (show ((↑n.keys.length : Int) - 1 : Int) = ↑(n.keys.length - 1) by omega)) (Step.sub rfl rfl (wrap_i64 (by omega))))) ?_
  refine tP (vQ kv5 (n.keys.length - 1) 1) rfl (fun w => (sX (n.keys.length - 1) Try.un22 Try.el9 rfl rfl hb24)) ?_
  refine tR (vS x26) rfl (fun A w M => (Step.loadE (k := 0) Try.sc9 (flat_ec (own_slAt (M.chunk 3 rfl).inv) hx26 strE_len) (by decide) rfl rfl)) ?_
  refine tP (Value.pointer (some ⟨b15, 3, none⟩)) rfl (fun w => sP) ?_
  refine tR vv7 rfl (fun A w M => (Step.load1 Try.sc97 rfl ((M.cell 1 rfl 3).trans rfl))) ?_
  refine tP (Value.pointer (some ⟨b15, 3, none⟩)) rfl (fun w => sP) ?_
  refine tR vv7 rfl (fun A w M => (Step.load1 Try.sc97 rfl ((M.cell 1 rfl 3).trans rfl))) ?_
  refine tR (vI ↑n.vals.length) rfl (fun A w M => (Step.lenSl Try.un97 rfl (own_slAt (M.chunk 5 rfl).inv))) ?_
  refine tP (vI (↑(n.vals.length - 1))) rfl (fun w => (Step.cast (congrArg (Value.int .i64) (show ((↑n.vals.length : Int) - 1 : Int) = ↑(n.vals.length - 1) by omega)) (Step.sub rfl rfl (wrap_i64 (by omega))))) ?_
  refine tP (vQ vv7 (n.vals.length - 1) 1) rfl (fun w => (sX (n.vals.length - 1) Try.un97 Try.el3 rfl rfl hb27)) ?_
  refine tR (vI x29) rfl (fun A w M => (Step.loadE (k := 0) Try.sc3 (flat_ec (own_slAt (M.chunk 5 rfl).inv) hx29 intE_len) (by decide) rfl rfl)) ?_
  refine tP (Value.agg #[(vS x26), (vI x29)]) rfl (fun w => sP) ?_
  refine TW.store (v := (Value.agg #[(vS x26), (vI x29)])) (cs := [(vS x26), (vI x29)]) (c' := #[(vS x26), (vI x29)]) 5 rfl rfl (by decide) rfl Try.el41.sized rfl rfl rfl rfl (Nat.le_of_ble_eq_true rfl) (cel_cons rfl (cel_cons rfl cel_nil)) rfl rfl (sY (sY (sY (sY (sY (sN sE)))))) (fun r h => h) ?_
  refine TW.done (fun w32 M => ?_)
  refine W.ret ?_
  refine ⟨.inl rfl, (Value.agg #[(vS x26), (vI x29)]), ?_, ?_⟩
  · exact ⟨rfl, (Res.r1 (RV.cellN Try.ag41 rfl (M.blk 5 rfl) rfl))⟩
  refine ⟨?_, M.close [1] rfl (by decide) trivial⟩
  rw [lastF_leaf hn hlf_]; simp [h18, hx26, hx29]
end Go.Proofs
set_option maxRecDepth 100000
namespace Go.Proofs
open Go Tp
theorem Try.en127 : Enters Try.prog 127 := fun _ _ => by kernel_rfl
theorem Try.en128 : Enters Try.prog 128 := fun _ _ => by kernel_rfl
theorem Try.en129 : Enters Try.prog 129 := fun _ _ => by kernel_rfl
set_option maxHeartbeats 4000000 in
theorem tr_turn {G X : Nat → Prop} {w : World} (tb ab : Nat) (r : Handle) (fu : Bool) (ln : Int) (l : List RPlace) (S : Nat → Prop) (h : Handle) (i : Nat) (lw : Bool)  (hO : pairOk l h i) (M : Mem G X w [arenaC 143 145 S ab l] [bF tb #[(vP ab), (vI r.at_), (vI r.turn), (vB fu), (vI ln)] 94] w) : Rets Try.prog 119 #[(vP tb), (Value.agg #[(vI h.at_), (vI h.turn)]), (vI ↑i), (vB lw)] w fun r w' => ∃ (S' : Nat → Prop), r = undef ∧ Mem G X w [arenaC 143 145 S' ab (turnF l h i lw)] [] w' := by
 refine Rets.enter 140 _ Try.func119 rfl Try.ntmps119 Try.results119 (by simp) ?_
 obtain ⟨n, hn⟩ : ∃ n, (rget l h).1 = n := ⟨_, rfl⟩
 obtain ⟨hA, hty, hvl, hin_, hkn_⟩ := pairOk_n hO hn
 obtain ⟨ht1, ht2, ht3⟩ := hty
 refine wR ?_
 refine WL.box (v := (Value.agg #[(vI h.at_), (vI h.turn)])) (c := #[(vI h.at_), (vI h.turn)]) M rfl rfl rfl (fun b1 w2 hb1 M => ?_)
 refine WL.nil (wR (wM (vP tb) (wS (Value.agg #[(vI h.at_), (vI h.turn)]) rfl (Step.loadN Try.ag92 rfl (M.blk 0 rfl) (Nat.le_of_ble_eq_true rfl) rfl) ?_)))
 have fq := M.frm [arenaC 143 145 S ab l] [bk b1 #[(vI h.at_), (vI h.turn)] 92] [1, 0] rfl
 refine WL.callX rfl (tr_node tb ab r fu ln l S h (by assumption) n hn (M.eF fq ⟨(M.rF fq 0 rfl), trivial⟩)) (CallsF.func Try.en49 rfl) ?_
 rintro _ w6 ⟨kv3, dv4, vv5, rfl, m⟩
 replace M := M.lF fq m
 clear m
 have sl7 : IsSl kv3 := SlAt.isSl (own_slAt (Mem.chunk M 1 rfl).inv)
 have hle8 := SlAt.le' (own_slAt (Mem.chunk M 1 rfl).inv)
 have sl9 : IsSl dv4 := SlAt.isSl (own_slAt (Mem.chunk M 2 rfl).inv)
 have hle10 := SlAt.le' (own_slAt (Mem.chunk M 2 rfl).inv)
 have sl11 : IsSl vv5 := SlAt.isSl (own_slAt (Mem.chunk M 3 rfl).inv)
 have hle12 := SlAt.le' (own_slAt (Mem.chunk M 3 rfl).inv)
 refine WL.alloc (c := #[(vB false), vZ, vZ, vZ]) M rfl Try.el99.zero rfl (fun b13 w14 hb13 M => ?_)
 refine WL.store (v := (Value.agg #[(vB n.leaf), kv3, dv4, vv5])) (cs := [(vB n.leaf), kv3, dv4, vv5]) (c' := #[(vB n.leaf), kv3, dv4, vv5]) M 0 rfl rfl Try.el99.sized rfl rfl rfl rfl (Nat.le_of_ble_eq_true rfl) (cel_cons rfl (cel_cons (IsSl.cel sl7) (cel_cons (IsSl.cel sl9) (cel_cons (IsSl.cel sl11) cel_nil)))) rfl rfl (fun w15 M => ?_)
 refine WL.nil (W.seq' ?_)
 obtain ⟨cap17, hb16⟩ := SlAt.base (own_slAt (M.chunk 3 rfl).inv) (by omega)
 obtain ⟨x18, hx18⟩ := elem_of_lt (xs := n.kids) (i := i) (by omega)
 have hgd1_ : n.kids.getD i hdZero = x18 := by rw [List.getD_eq_getElem?_getD, hx18]; rfl
 obtain ⟨x22, hx22⟩ := elem_of_lt (xs := n.kids) (i := i + 1) (by omega)
 have hgd2_ : n.kids.getD (i + 1) hdZero = x22 := by rw [List.getD_eq_getElem?_getD, hx22]; rfl
 refine W.drawn M [0, 1, 2, 3, 4, 5, 6, 7, 8, 9, 10, 11, 12, 13, 14, 15, 16, 17, 18] [6, 14, 17, 18] [15, 16] _ _ (sY (sY (sY (sY (sY (sY sE)))))) (fun _ h => h) Try.mixed (by kernel_rfl) ?_
 refine tP (vP tb) rfl (fun w => (Step.move rfl)) ?_
 refine tP (Value.pointer (some ⟨b13, 2, none⟩)) rfl (fun w => sP) ?_
 refine tR dv4 rfl (fun A w M => (Step.load1 Try.sc96 rfl ((M.cell 1 rfl 2).trans rfl))) ?_
 refine tP (vI ↑i) rfl (fun w => (Step.move rfl)) ?_
 refine tP (vQ dv4 i 2) rfl (fun w => (sX i Try.un96 Try.el92 rfl rfl hb16)) ?_
 refine tR (Value.agg #[(vI x18.at_), (vI x18.turn)]) rfl (fun A w M => (Step.loadEN (k := 0) (cs' := [(vI x18.at_), (vI x18.turn)]) Try.ag92 (flat_ec (own_slAt (M.chunk 4 rfl).inv) hx18 handleE_len) (by decide) rfl rfl rfl)) ?_
 obtain ⟨na_, hna_⟩ : ∃ n, (rget l x18).1 = n := ⟨_, rfl⟩
 let Q : List Chunk := [bk b13 #[(vB n.leaf), kv3, dv4, vv5] 99, oS kv3 n.keys, oH dv4 n.kids, oI vv5 n.vals, bk b1 #[(vI h.at_), (vI h.turn)] 92]
 refine TW.callX (ι := Value × Value × Value) (fun jx v_ => v_ = (Value.agg #[(vB na_.leaf), jx.1, jx.2.1, jx.2.2])) (fun jx => [oS jx.1 na_.keys, oH jx.2.1 na_.kids, oI jx.2.2 na_.vals, bk b13 #[(vB n.leaf), kv3, dv4, vv5] 99, arenaC 143 145 S ab l, oS kv3 n.keys, oH dv4 n.kids, oI vv5 n.vals, bk b1 #[(vI h.at_), (vI h.turn)] 92]) (fun jx => [bF tb #[(vP ab), (vI r.at_), (vI r.turn), (vB fu), (vI ln)] 94]) rfl (by decide) rfl (fun jx => (sN (sN (sN (sY (sY (sY (sY (sY (sY sE)))))))))) (fun jx r h => h) (fun A w M => have fq := M.frm [arenaC 143 145 S ab l] (fl A :: Q) [2, 0, 1, 3, 4, 5, 6] rfl; Rets.mono (tr_node tb ab r fu ln l S x18 (by assumption) na_ hna_ (M.eF fq ⟨(M.rF fq 0 rfl), trivial⟩)) (fun v_ w_ ⟨kv44, dv45, vv46, e_, m⟩ => ⟨(kv44, dv45, vv46), e_, (M.lF fq m).sel [4, 1, 2, 3, 5, 0, 6, 7, 8, 9] rfl (by decide), fun b hb => M.kF fq m b hb⟩)) (fun w => CallsF.func Try.en49 rfl) (fun jx v hp hin => ?_)
 obtain ⟨kv44, dv45, vv46⟩ := jx
 replace hp := hp.symm; subst hp
 obtain ⟨_, _, hin⟩ := hin
 have sl47 : IsSl kv44 := SlAt.isSl (own_slAt (Mem.chunk hin 1 rfl).inv)
 have hle48 := SlAt.le' (own_slAt (Mem.chunk hin 1 rfl).inv)
 have sl49 : IsSl dv45 := SlAt.isSl (own_slAt (Mem.chunk hin 2 rfl).inv)
 have hle50 := SlAt.le' (own_slAt (Mem.chunk hin 2 rfl).inv)
 have sl51 : IsSl vv46 := SlAt.isSl (own_slAt (Mem.chunk hin 3 rfl).inv)
 have hle52 := SlAt.le' (own_slAt (Mem.chunk hin 3 rfl).inv)
 clear hin
 refine tP (vP tb) rfl (fun w => (Step.move rfl)) ?_
 refine tP (Value.pointer (some ⟨b13, 2, none⟩)) rfl (fun w => sP) ?_
 refine tR dv4 rfl (fun A w M => (Step.load1 Try.sc96 rfl ((M.cell 1 rfl 2).trans rfl))) ?_
 refine tP (vI ↑i) rfl (fun w => (Step.move rfl)) ?_
 refine tP (vI (↑(i + 1))) rfl (fun w => (Step.cast (congrArg (Value.int .i64) (show (↑i + 1 : Int) = ↑(i + 1) by omega)) (Step.add rfl rfl (wrap_i64 (by omega))))) ?_
 refine tP (vQ dv4 (i + 1) 2) rfl (fun w => (sX (i + 1) Try.un96 Try.el92 rfl rfl hb16)) ?_
 refine tR (Value.agg #[(vI x22.at_), (vI x22.turn)]) rfl (fun A w M => (Step.loadEN (k := 0) (cs' := [(vI x22.at_), (vI x22.turn)]) Try.ag92 (flat_ec (own_slAt (M.chunk 4 rfl).inv) hx22 handleE_len) (by decide) rfl rfl rfl)) ?_
 obtain ⟨nb_, hnb_⟩ : ∃ n, (rget l x22).1 = n := ⟨_, rfl⟩
 have hP := pairOk_at hO hn hgd1_ hgd2_ hna_ hnb_
 obtain ⟨hta1, hta2, hta3⟩ := hP.a_
 obtain ⟨htb1, htb2, htb3⟩ := hP.b_
 have hal_ := hP.al
 have hbl_ := hP.bl
 have ha1_ := hP.a1
 have hb1_ := hP.b1
 have hlfb_ := hP.lf
 let Q : List Chunk := [oS kv44 na_.keys, oH dv45 na_.kids, oI vv46 na_.vals, bk b13 #[(vB n.leaf), kv3, dv4, vv5] 99, oS kv3 n.keys, oH dv4 n.kids, oI vv5 n.vals, bk b1 #[(vI h.at_), (vI h.turn)] 92]
 refine TW.callX (ι := Value × Value × Value) (fun jx v_ => v_ = (Value.agg #[(vB nb_.leaf), jx.1, jx.2.1, jx.2.2])) (fun jx => [oS jx.1 nb_.keys, oH jx.2.1 nb_.kids, oI jx.2.2 nb_.vals, oS kv44 na_.keys, oH dv45 na_.kids, oI vv46 na_.vals, bk b13 #[(vB n.leaf), kv3, dv4, vv5] 99, arenaC 143 145 S ab l, oS kv3 n.keys, oH dv4 n.kids, oI vv5 n.vals, bk b1 #[(vI h.at_), (vI h.turn)] 92]) (fun jx => [bF tb #[(vP ab), (vI r.at_), (vI r.turn), (vB fu), (vI ln)] 94]) rfl (by decide) rfl (fun jx => (sN (sN (sN (sN (sN (sN (sY (sY (sY (sY (sY (sY sE))))))))))))) (fun jx r h => h) (fun A w M => have fq := M.frm [arenaC 143 145 S ab l] (fl A :: Q) [5, 0, 1, 2, 3, 4, 6, 7, 8, 9] rfl; Rets.mono (tr_node tb ab r fu ln l S x22 (by assumption) nb_ hnb_ (M.eF fq ⟨(M.rF fq 0 rfl), trivial⟩)) (fun v_ w_ ⟨kv53, dv54, vv55, e_, m⟩ => ⟨(kv53, dv54, vv55), e_, (M.lF fq m).sel [4, 1, 2, 3, 5, 6, 7, 8, 0, 9, 10, 11, 12] rfl (by decide), fun b hb => M.kF fq m b hb⟩)) (fun w => CallsF.func Try.en49 rfl) (fun jx v hp hin => ?_)
 obtain ⟨kv53, dv54, vv55⟩ := jx
 replace hp := hp.symm; subst hp
 obtain ⟨_, _, hin⟩ := hin
 have sl56 : IsSl kv53 := SlAt.isSl (own_slAt (Mem.chunk hin 1 rfl).inv)
 have hle57 := SlAt.le' (own_slAt (Mem.chunk hin 1 rfl).inv)
 have sl58 : IsSl dv54 := SlAt.isSl (own_slAt (Mem.chunk hin 2 rfl).inv)
 have hle59 := SlAt.le' (own_slAt (Mem.chunk hin 2 rfl).inv)
 have sl60 : IsSl vv55 := SlAt.isSl (own_slAt (Mem.chunk hin 3 rfl).inv)
 have hle61 := SlAt.le' (own_slAt (Mem.chunk hin 3 rfl).inv)
 clear hin
 refine TW.new (obj := .cells #[(vB false), vZ, vZ, vZ] 99) (fun b => .pointer (some ⟨b, 0, none⟩)) rfl (by decide) (by decide) rfl (fun w => Step.alloc Try.el99.zero) (fun b62 => ?_)
 refine TW.new (obj := .cells #[(vB false), vZ, vZ, vZ] 99) (fun b => .pointer (some ⟨b, 0, none⟩)) rfl (by decide) (by decide) rfl (fun w => Step.alloc Try.el99.zero) (fun b63 => ?_)
 refine TW.store (v := (Value.agg #[(vB na_.leaf), kv44, dv45, vv46])) (cs := [(vB na_.leaf), kv44, dv45, vv46]) (c' := #[(vB na_.leaf), kv44, dv45, vv46]) 1 rfl rfl (by decide) rfl Try.el99.sized rfl rfl rfl rfl (Nat.le_of_ble_eq_true rfl) (cel_cons rfl (cel_cons (IsSl.cel sl47) (cel_cons (IsSl.cel sl49) (cel_cons (IsSl.cel sl51) cel_nil)))) rfl rfl (sN (sN (sN (sN (sN (sN (sN (sN (sY (sY (sY (sY (sY (sY sE)))))))))))))) (fun r h => h) ?_
 refine TW.store (v := (Value.agg #[(vB nb_.leaf), kv53, dv54, vv55])) (cs := [(vB nb_.leaf), kv53, dv54, vv55]) (c' := #[(vB nb_.leaf), kv53, dv54, vv55]) 0 rfl rfl (by decide) rfl Try.el99.sized rfl rfl rfl rfl (Nat.le_of_ble_eq_true rfl) (cel_cons rfl (cel_cons (IsSl.cel sl56) (cel_cons (IsSl.cel sl58) (cel_cons (IsSl.cel sl60) cel_nil)))) rfl rfl (sN (sN (sN (sN (sN (sN (sN (sN (sY (sY (sY (sY (sY (sY sE)))))))))))))) (fun r h => h) ?_
 refine TW.done (fun w64 M => ?_)
 refine W.seq' ?_
 have hsh65 := SlAt.shp (own_slAt (M.chunk 10 rfl).inv)
 have hsh65c := hsh65
 obtain ⟨_, _, hsh65l, hsh65m⟩ := hsh65c
 refine W.drawn M [0, 1, 2, 3, 4, 5, 6, 7, 8, 9, 10, 11, 12] [11] [10] _ _ (sY (sY (sY (sY (sY (sY (sY (sY (sY (sY (sY (sY (sY (sY sE)))))))))))))) (fun _ h => h) Try.mixed (by kernel_rfl) ?_
 refine tP (Value.pointer (some ⟨b62, 1, none⟩)) rfl (fun w => sP) ?_
 refine tR kv44 rfl (fun A w M => (Step.load1 Try.sc22 rfl ((M.cell 2 rfl 1).trans rfl))) ?_
 refine tP (Value.pointer (some ⟨b13, 1, none⟩)) rfl (fun w => sP) ?_
 refine tR kv3 rfl (fun A w M => (Step.load1 Try.sc22 rfl ((M.cell 9 rfl 1).trans rfl))) ?_
 refine tP (vI ↑i) rfl (fun w => (Step.move rfl)) ?_
 refine tP (vI ↑i) rfl (fun w => (Step.move rfl)) ?_
 refine tP (vI (↑(i + 1))) rfl (fun w => (Step.cast (congrArg (Value.int .i64) (show (↑i + 1 : Int) = ↑(i + 1) by omega)) (Step.add rfl rfl (wrap_i64 (by omega))))) ?_
 refine tP (vSlice 1 i (i + 1) (vCap kv3) kv3) rfl (fun w => (Step.sliceLHP (l := i) (h := i + 1) Try.un22 Try.el9.sized rfl rfl (by omega) rfl (by omega) hsh65 (by omega) (by obtain ⟨_, _, _, _⟩ := hsh65; omega))) ?_
 refine tP (Value.pointer (some ⟨b63, 1, none⟩)) rfl (fun w => sP) ?_
 refine tR kv53 rfl (fun A w M => (Step.load1 Try.sc22 rfl ((M.cell 1 rfl 1).trans rfl))) ?_
 refine TW.new (obj := .cells #[kv44, (vSlice 1 i (i + 1) (vCap kv3) kv3), kv53] 22) (fun b => .slice (some ⟨b, 0, none⟩) 3 3) rfl (by decide) (by decide) rfl (fun w => (by obtain ⟨_, _, _, e⟩ := sl47; subst e; obtain ⟨_, _, _, e⟩ := (vSlice_sl (Shp.isSl hsh65)); rw [e]; obtain ⟨_, _, _, e⟩ := sl56; subst e; exact Step.make (by kernel_rfl))) (fun b72 => ?_)
 let Q : List Chunk := [bk b72 #[kv44, (vSlice 1 i (i + 1) (vCap kv3) kv3), kv53] 22, bk b63 #[(vB nb_.leaf), kv53, dv54, vv55] 99, bk b62 #[(vB na_.leaf), kv44, dv45, vv46] 99, oS kv53 nb_.keys, oH dv54 nb_.kids, oI vv55 nb_.vals, oS kv44 na_.keys, oH dv45 na_.kids, oI vv46 na_.vals, bk b13 #[(vB n.leaf), kv3, dv4, vv5] 99, arenaC 143 145 S ab l, oS kv3 n.keys, oH dv4 n.kids, oI vv5 n.vals, bk b1 #[(vI h.at_), (vI h.turn)] 92]
 refine TW.callX (ι := Value) (fun jx v_ => v_ = jx) (fun jx => oS jx (([na_.keys, (n.keys.drop i).take ((i + 1) - i), nb_.keys] : List (List ByteArray)).flatten) :: Q) (fun jx => [bF tb #[(vP ab), (vI r.at_), (vI r.turn), (vB fu), (vI ln)] 94]) rfl (by decide) rfl (fun jx => (sN (sN (sY (sY (sY (sY (sY (sY (sY (sY (sY (sY (sY (sY (sY (sY sE))))))))))))))))) (fun jx r h => h) (fun A w M => Rets.mono (concat_str (Value.slice (some ⟨b72, 0, none⟩) 3 3) ([na_.keys, (n.keys.drop i).take ((i + 1) - i), nb_.keys] : List (List ByteArray)) (by simp [sumL]; omega) (by simp) (M.enterW0 ⟨((((M.wideC0 1 rfl)).and (((M.wideC0 7 rfl).imp fun _ h => own_slAt h).and (((((M.wideC0 12 rfl).imp fun _ h => own_slAt h)).imp fun _ h => slat_sliceF strE_len (l := i) (h := i + 1) h (by omega) (by omega) (Nat.le_trans (by omega) (SlAt.cap h).1) (Nat.le_refl _)).and ((M.wideC0 4 rfl).imp fun _ h => own_slAt h)))).imp fun _ ⟨hb_, hq0_, hq1_, hq2_⟩ => repS_blk (SlsT 1 strE) (cs := [kv44, (vSlice 1 i (i + 1) (vCap kv3) kv3), kv53]) (xs := [na_.keys, (n.keys.drop i).take ((i + 1) - i), nb_.keys]) hb_ rfl (by decide) (repL_snoc (T := (SlsT 1 strE)) (new := [kv53]) (x := nb_.keys) (repL_snoc (T := (SlsT 1 strE)) (new := [(vSlice 1 i (i + 1) (vCap kv3) kv3)]) (x := (n.keys.drop i).take ((i + 1) - i)) (repL_snoc (T := (SlsT 1 strE)) (new := [kv44]) (x := na_.keys) repL_nil (⟨_, rfl, hq0_⟩ : slRep 1 strE _ _ _)) (⟨_, rfl, hq1_⟩ : slRep 1 strE _ _ _)) (⟨_, rfl, hq2_⟩ : slRep 1 strE _ _ _))), trivial⟩)) (fun v_ w_ ⟨v73, e_, m⟩ => ⟨v73, e_, (M.leaveW0 m).sel [1, 0, 2, 3, 4, 5, 6, 7, 8, 9, 10, 11, 12, 13, 14, 15, 16] rfl (by decide), fun b hb => M.k0F m b hb⟩)) (fun w => CallsF.func Try.en127 rfl) (fun v73 v hp hin => ?_)
 replace hp := hp.symm; subst hp
 obtain ⟨_, _, hin⟩ := hin
 have sl74 : IsSl v73 := SlAt.isSl (own_slAt (Mem.chunk hin 1 rfl).inv)
 have hle75 := SlAt.le' (own_slAt (Mem.chunk hin 1 rfl).inv)
 clear hin
 refine tP v73 rfl (fun w => (Step.assign rfl)) ?_
 refine TW.done (fun w76 M => ?_)
 refine W.seq' ?_
 replace M := M.loseI 1
 have hsh77 := SlAt.shp (own_slAt (M.chunk 13 rfl).inv)
 have hsh77c := hsh77
 obtain ⟨_, _, hsh77l, hsh77m⟩ := hsh77c
 refine W.drawn M [0, 1, 2, 3, 4, 5, 6, 7, 8, 9, 10, 11, 12] [11] [10] _ _ (sY (sY (sY (sY (sY (sY (sY (sY (sY (sY (sY (sY (sY (sY (sY sE))))))))))))))) (fun _ h => h) Try.mixed (by kernel_rfl) ?_
 refine tP (Value.pointer (some ⟨b62, 3, none⟩)) rfl (fun w => sP) ?_
 refine tR vv46 rfl (fun A w M => (Step.load1 Try.sc97 rfl ((M.cell 3 rfl 3).trans rfl))) ?_
 refine tP (Value.pointer (some ⟨b13, 3, none⟩)) rfl (fun w => sP) ?_
 refine tR vv5 rfl (fun A w M => (Step.load1 Try.sc97 rfl ((M.cell 10 rfl 3).trans rfl))) ?_
 refine tP (vI ↑i) rfl (fun w => (Step.move rfl)) ?_
 refine tP (vI ↑i) rfl (fun w => (Step.move rfl)) ?_
 refine tP (vI (↑(i + 1))) rfl (fun w => (Step.cast (congrArg (Value.int .i64) (show (↑i + 1 : Int) = ↑(i + 1) by omega)) (Step.add rfl rfl (wrap_i64 (by omega))))) ?_
 refine tP (vSlice 1 i (i + 1) (vCap vv5) vv5) rfl (fun w => (Step.sliceLHP (l := i) (h := i + 1) Try.un97 Try.el3.sized rfl rfl (by omega) rfl (by omega) hsh77 (by omega) (by obtain ⟨_, _, _, _⟩ := hsh77; omega))) ?_
 refine tP (Value.pointer (some ⟨b63, 3, none⟩)) rfl (fun w => sP) ?_
 refine tR vv55 rfl (fun A w M => (Step.load1 Try.sc97 rfl ((M.cell 2 rfl 3).trans rfl))) ?_
 refine TW.new (obj := .cells #[vv46, (vSlice 1 i (i + 1) (vCap vv5) vv5), vv55] 97) (fun b => .slice (some ⟨b, 0, none⟩) 3 3) rfl (by decide) (by decide) rfl (fun w => (by obtain ⟨_, _, _, e⟩ := sl51; subst e; obtain ⟨_, _, _, e⟩ := (vSlice_sl (Shp.isSl hsh77)); rw [e]; obtain ⟨_, _, _, e⟩ := sl60; subst e; exact Step.make (by kernel_rfl))) (fun b84 => ?_)
 let Q : List Chunk := [bk b84 #[vv46, (vSlice 1 i (i + 1) (vCap vv5) vv5), vv55] 97, oS v73 (([na_.keys, (n.keys.drop i).take ((i + 1) - i), nb_.keys] : List (List ByteArray)).flatten), bk b63 #[(vB nb_.leaf), kv53, dv54, vv55] 99, bk b62 #[(vB na_.leaf), kv44, dv45, vv46] 99, oS kv53 nb_.keys, oH dv54 nb_.kids, oI vv55 nb_.vals, oS kv44 na_.keys, oH dv45 na_.kids, oI vv46 na_.vals, bk b13 #[(vB n.leaf), kv3, dv4, vv5] 99, arenaC 143 145 S ab l, oS kv3 n.keys, oH dv4 n.kids, oI vv5 n.vals, bk b1 #[(vI h.at_), (vI h.turn)] 92]
 refine TW.callX (ι := Value) (fun jx v_ => v_ = jx) (fun jx => oI jx (([na_.vals, (n.vals.drop i).take ((i + 1) - i), nb_.vals] : List (List Int)).flatten) :: Q) (fun jx => [bF tb #[(vP ab), (vI r.at_), (vI r.turn), (vB fu), (vI ln)] 94]) rfl (by decide) rfl (fun jx => (sN (sN (sY (sY (sY (sY (sY (sY (sY (sY (sY (sY (sY (sY (sY (sY (sY sE)))))))))))))))))) (fun jx r h => h) (fun A w M => Rets.mono (concat_int (Value.slice (some ⟨b84, 0, none⟩) 3 3) ([na_.vals, (n.vals.drop i).take ((i + 1) - i), nb_.vals] : List (List Int)) (by simp [sumL]; omega) (by simp) (M.enterW0 ⟨((((M.wideC0 1 rfl)).and (((M.wideC0 10 rfl).imp fun _ h => own_slAt h).and (((((M.wideC0 15 rfl).imp fun _ h => own_slAt h)).imp fun _ h => slat_sliceF intE_len (l := i) (h := i + 1) h (by omega) (by omega) (Nat.le_trans (by omega) (SlAt.cap h).1) (Nat.le_refl _)).and ((M.wideC0 7 rfl).imp fun _ h => own_slAt h)))).imp fun _ ⟨hb_, hq0_, hq1_, hq2_⟩ => repS_blk (SlsT 1 intE) (cs := [vv46, (vSlice 1 i (i + 1) (vCap vv5) vv5), vv55]) (xs := [na_.vals, (n.vals.drop i).take ((i + 1) - i), nb_.vals]) hb_ rfl (by decide) (repL_snoc (T := (SlsT 1 intE)) (new := [vv55]) (x := nb_.vals) (repL_snoc (T := (SlsT 1 intE)) (new := [(vSlice 1 i (i + 1) (vCap vv5) vv5)]) (x := (n.vals.drop i).take ((i + 1) - i)) (repL_snoc (T := (SlsT 1 intE)) (new := [vv46]) (x := na_.vals) repL_nil (⟨_, rfl, hq0_⟩ : slRep 1 intE _ _ _)) (⟨_, rfl, hq1_⟩ : slRep 1 intE _ _ _)) (⟨_, rfl, hq2_⟩ : slRep 1 intE _ _ _))), trivial⟩)) (fun v_ w_ ⟨v85, e_, m⟩ => ⟨v85, e_, (M.leaveW0 m).sel [1, 0, 2, 3, 4, 5, 6, 7, 8, 9, 10, 11, 12, 13, 14, 15, 16, 17] rfl (by decide), fun b hb => M.k0F m b hb⟩)) (fun w => CallsF.func Try.en128 rfl) (fun v85 v hp hin => ?_)
 replace hp := hp.symm; subst hp
 obtain ⟨_, _, hin⟩ := hin
 have sl86 : IsSl v85 := SlAt.isSl (own_slAt (Mem.chunk hin 1 rfl).inv)
 have hle87 := SlAt.le' (own_slAt (Mem.chunk hin 1 rfl).inv)
 clear hin
 refine tP v85 rfl (fun w => (Step.assign rfl)) ?_
 refine TW.done (fun w88 M => ?_)
 refine W.seq' ?_
 replace M := M.loseI 1
 have hcat_keys : ([na_.keys, (n.keys.drop i).take ((i + 1) - i), nb_.keys] : List (List ByteArray)).flatten = na_.keys ++ ((n.keys.drop i).take 1 ++ nb_.keys) := by simp [Nat.add_sub_cancel_left]
 replace M := M.rechunk 1 (c' := oS v73 (na_.keys ++ ((n.keys.drop i).take 1 ++ nb_.keys))) rfl (by rw [hcat_keys])
 have hcl_keys : (na_.keys ++ ((n.keys.drop i).take 1 ++ nb_.keys)).length = na_.keys.length + (1 + nb_.keys.length) := by simp; try omega
 have hcat_vals : ([na_.vals, (n.vals.drop i).take ((i + 1) - i), nb_.vals] : List (List Int)).flatten = na_.vals ++ ((n.vals.drop i).take 1 ++ nb_.vals) := by simp [Nat.add_sub_cancel_left]
 replace M := M.rechunk 0 (c' := oI v85 (na_.vals ++ ((n.vals.drop i).take 1 ++ nb_.vals))) rfl (by rw [hcat_vals])
 have hcl_vals : (na_.vals ++ ((n.vals.drop i).take 1 ++ nb_.vals)).length = na_.vals.length + (1 + nb_.vals.length) := by simp; try omega
 refine W.region rfl (wP (Value.pointer (some ⟨b62, 2, none⟩)) (wS dv45 rfl (Step.load1 Try.sc96 rfl ((M.cell 3 rfl 2).trans rfl)) (wP (Value.pointer (some ⟨b63, 2, none⟩)) (wS dv54 rfl (Step.load1 Try.sc96 rfl ((M.cell 2 rfl 2).trans rfl)) ?_))))
 refine WL.new (obj := .cells #[dv45, dv54] 96) (fun b => .slice (some ⟨b, 0, none⟩) 2 2) M rfl (fun w => (by obtain ⟨_, _, _, e⟩ := sl49; subst e; obtain ⟨_, _, _, e⟩ := sl58; subst e; exact Step.make (by kernel_rfl))) (fun b89 w90 hb89 M => ?_)
 refine WL.callX rfl (concat_hdl (Value.slice (some ⟨b89, 0, none⟩) 2 2) ([na_.kids, nb_.kids] : List (List Handle)) (by simp [sumL]; omega) (by simp) (M.enterW0 ⟨((((M.wideC0 0 rfl)).and (((M.wideC0 9 rfl).imp fun _ h => own_slAt h).and ((M.wideC0 6 rfl).imp fun _ h => own_slAt h))).imp fun _ ⟨hb_, hq0_, hq1_⟩ => repS_blk (SlsT 2 handleE) (cs := [dv45, dv54]) (xs := [na_.kids, nb_.kids]) hb_ rfl (by decide) (repL_snoc (T := (SlsT 2 handleE)) (new := [dv54]) (x := nb_.kids) (repL_snoc (T := (SlsT 2 handleE)) (new := [dv45]) (x := na_.kids) repL_nil (⟨_, rfl, hq0_⟩ : slRep 2 handleE _ _ _)) (⟨_, rfl, hq1_⟩ : slRep 2 handleE _ _ _))), trivial⟩)) (CallsF.func Try.en129 rfl) ?_
 rintro v91 w92 ⟨_, rfl, m⟩
 replace M := M.leaveW0 m
 clear m
 have sl93 : IsSl v91 := SlAt.isSl (own_slAt (Mem.chunk M 0 rfl).inv)
 have hle94 := SlAt.le' (own_slAt (Mem.chunk M 0 rfl).inv)
 refine wA v91 (WL.nil (W.seq' ?_))
 have hcat_kids : ([na_.kids, nb_.kids] : List (List Handle)).flatten = na_.kids ++ nb_.kids := by simp [Nat.add_sub_cancel_left]
 replace M := M.rechunk 0 (c' := oH v91 (na_.kids ++ nb_.kids)) rfl (by rw [hcat_kids])
 have hcl_kids : (na_.kids ++ nb_.kids).length = na_.kids.length + nb_.kids.length := by simp; try omega
 refine W.region rfl (wP (Value.pointer (some ⟨b62, 1, none⟩)) (wS kv44 rfl (Step.load1 Try.sc22 rfl ((M.cell 5 rfl 1).trans rfl)) (wS (vI ↑na_.keys.length) rfl (Step.lenSl Try.un22 rfl (own_slAt (M.chunk 9 rfl).inv)) (wS (vI (↑(na_.keys.length - 1))) rfl (Step.cast (congrArg (Value.int .i64) (show ((↑na_.keys.length : Int) - 1 : Int) = ↑(na_.keys.length - 1) by omega)) (Step.sub rfl rfl (wrap_i64 (by omega)))) (wA (vI (↑(na_.keys.length - 1))) ?_)))))
 refine WL.nil (W.seq' (wR (wM (vB lw) (WL.nil ?_))))
 obtain ⟨at_, hat_⟩ : ∃ q, (if lw then na_.keys.length + 1 else na_.keys.length - 1) = q := ⟨_, rfl⟩
 have hatl_ : at_ ≤ na_.keys.length + 1 := by rw [← hat_]; split <;> omega
 refine W.join (fun ρ w' => ρ.has [(0, (vP tb)), (1, (Value.agg #[(vI h.at_), (vI h.turn)])), (2, (vI ↑i)), (3, (vB lw)), (5, (vP b1)), (8, (vP b13)), (9, (vP b62)), (10, (vP b63)), (11, v73), (12, v85), (13, v91), (14, (vI ↑at_)), (15, (vP tb)), (16, (Value.agg #[(vI h.at_), (vI h.turn)])), (17, (Value.agg #[(vB n.leaf), kv3, dv4, vv5])), (18, (vP tb)), (19, (Value.pointer (some ⟨b13, 2, none⟩))), (20, dv4), (21, (vI ↑i)), (22, (vQ dv4 i 2)), (23, (Value.agg #[(vI x18.at_), (vI x18.turn)])), (24, (Value.agg #[(vB na_.leaf), kv44, dv45, vv46])), (25, (vP tb)), (26, (Value.pointer (some ⟨b13, 2, none⟩))), (27, dv4), (28, (vI ↑i)), (29, (vI (↑(i + 1)))), (30, (vQ dv4 (i + 1) 2)), (31, (Value.agg #[(vI x22.at_), (vI x22.turn)])), (32, (Value.agg #[(vB nb_.leaf), kv53, dv54, vv55])), (33, (Value.pointer (some ⟨b62, 1, none⟩))), (34, kv44), (35, (Value.pointer (some ⟨b13, 1, none⟩))), (36, kv3), (37, (vI ↑i)), (38, (vI ↑i)), (39, (vI (↑(i + 1)))), (40, (vSlice 1 i (i + 1) (vCap kv3) kv3)), (41, (Value.pointer (some ⟨b63, 1, none⟩))), (42, kv53), (43, (Value.slice (some ⟨b72, 0, none⟩) 3 3)), (44, v73), (45, (Value.pointer (some ⟨b62, 3, none⟩))), (46, vv46), (47, (Value.pointer (some ⟨b13, 3, none⟩))), (48, vv5), (49, (vI ↑i)), (50, (vI ↑i)), (51, (vI (↑(i + 1)))), (52, (vSlice 1 i (i + 1) (vCap vv5) vv5)), (53, (Value.pointer (some ⟨b63, 3, none⟩))), (54, vv55), (55, (Value.slice (some ⟨b84, 0, none⟩) 3 3)), (56, v85), (57, (Value.pointer (some ⟨b62, 2, none⟩))), (58, dv45), (59, (Value.pointer (some ⟨b63, 2, none⟩))), (60, dv54), (61, (Value.slice (some ⟨b89, 0, none⟩) 2 2)), (62, v91), (63, (Value.pointer (some ⟨b62, 1, none⟩))), (64, kv44), (65, (vI ↑na_.keys.length)), (66, (vI (↑(na_.keys.length - 1)))), (67, (vB lw))] ∧ Mem G X w [oH v91 (na_.kids ++ nb_.kids), bk b89 #[dv45, dv54] 96, oI v85 (na_.vals ++ ((n.vals.drop i).take 1 ++ nb_.vals)), oS v73 (na_.keys ++ ((n.keys.drop i).take 1 ++ nb_.keys)), bk b63 #[(vB nb_.leaf), kv53, dv54, vv55] 99, bk b62 #[(vB na_.leaf), kv44, dv45, vv46] 99, oS kv53 nb_.keys, oH dv54 nb_.kids, oI vv55 nb_.vals, oS kv44 na_.keys, oH dv45 na_.kids, oI vv46 na_.vals, bk b13 #[(vB n.leaf), kv3, dv4, vv5] 99, arenaC 143 145 S ab l, oS kv3 n.keys, oH dv4 n.kids, oI vv5 n.vals, bk b1 #[(vI h.at_), (vI h.turn)] 92] [bF tb #[(vP ab), (vI r.at_), (vI r.turn), (vB fu), (vI ln)] 94] w') ?_ ?_
 ·
  refine W.cond (t := lw) rfl (fun h95 => ?_) (fun h95 => ?_)
  ·
   refine W.region rfl (wP (Value.pointer (some ⟨b62, 1, none⟩)) (wS kv44 rfl (Step.load1 Try.sc22 rfl ((M.cell 5 rfl 1).trans rfl)) (wS (vI ↑na_.keys.length) rfl (Step.lenSl Try.un22 rfl (own_slAt (M.chunk 9 rfl).inv)) (wS (vI (↑(na_.keys.length + 1))) rfl (Step.cast (congrArg (Value.int .i64) (show (↑na_.keys.length + 1 : Int) = ↑(na_.keys.length + 1) by omega)) (Step.add rfl rfl (wrap_i64 (by omega)))) (wA (vI (↑(na_.keys.length + 1))) ?_)))))
   refine WL.nil ?_
   exact ⟨⟨rfl, rfl, rfl, rfl, rfl, rfl, rfl, rfl, rfl, rfl, rfl, (congrArg (Value.int .i64) (show (↑(na_.keys.length + 1) : Int) = ↑at_ by rw [← hat_]; simp only [h95, if_true, Bool.false_eq_true, if_false] <;> omega)), rfl, rfl, rfl, rfl, rfl, rfl, rfl, rfl, rfl, rfl, rfl, rfl, rfl, rfl, rfl, rfl, rfl, rfl, rfl, rfl, rfl, rfl, rfl, rfl, rfl, rfl, rfl, rfl, rfl, rfl, rfl, rfl, rfl, rfl, rfl, rfl, rfl, rfl, rfl, rfl, rfl, rfl, rfl, rfl, rfl, rfl, rfl, rfl, rfl, rfl, rfl, rfl, rfl, rfl, rfl⟩, M⟩
  ·
   refine W.skip ?_
   exact ⟨⟨rfl, rfl, rfl, rfl, rfl, rfl, rfl, rfl, rfl, rfl, rfl, (congrArg (Value.int .i64) (show (↑(na_.keys.length - 1) : Int) = ↑at_ by rw [← hat_]; simp only [h95, if_true, Bool.false_eq_true, if_false] <;> omega)), rfl, rfl, rfl, rfl, rfl, rfl, rfl, rfl, rfl, rfl, rfl, rfl, rfl, rfl, rfl, rfl, rfl, rfl, rfl, rfl, rfl, rfl, rfl, rfl, rfl, rfl, rfl, rfl, rfl, rfl, rfl, rfl, rfl, rfl, rfl, rfl, rfl, rfl, rfl, rfl, rfl, rfl, rfl, rfl, rfl, rfl, rfl, rfl, rfl, rfl, rfl, rfl, rfl, rfl, rfl⟩, M⟩
 ·
  rintro ρ96 w97 ⟨hρ, M⟩
  obtain ⟨ρ96, rfl⟩ := hρ.know
  clear hρ
  refine W.seq' ?_
  replace M := M.loseI 1
  obtain ⟨cap99, hb98⟩ := SlAt.base (own_slAt (M.chunk 2 rfl).inv) (by omega)
  obtain ⟨x100, hx100⟩ := elem_of_lt (xs := na_.keys ++ ((n.keys.drop i).take 1 ++ nb_.keys)) (i := at_) (by omega)
  obtain ⟨cap102, hb101⟩ := SlAt.base (own_slAt (M.chunk 1 rfl).inv) (by omega)
  obtain ⟨x103, hx103⟩ := elem_of_lt (xs := na_.vals ++ ((n.vals.drop i).take 1 ++ nb_.vals)) (i := at_) (by omega)
  obtain ⟨cap105, hb104⟩ := SlAt.base (own_slAt (M.chunk 13 rfl).inv) (by omega)
  obtain ⟨x106, hx106⟩ := elem_of_lt (xs := n.keys) (i := i) (by omega)
  obtain ⟨pre107, post108, hcs109, hpre110, hback111⟩ := flat_open strE_len hx106
  replace M := M.rechunk 13 (c' := own 9 1 kv3 n.keys.length (pre107 ++ ([(vS x106)] ++ post108))) rfl (by show own 9 1 kv3 n.keys.length (n.keys.flatMap strE) = _; rw [hcs109]; rfl)
  obtain ⟨cap113, hb112⟩ := SlAt.base (own_slAt (M.chunk 15 rfl).inv) (by omega)
  obtain ⟨x114, hx114⟩ := elem_of_lt (xs := n.vals) (i := i) (by omega)
  obtain ⟨pre115, post116, hcs117, hpre118, hback119⟩ := flat_open intE_len hx114
  replace M := M.rechunk 15 (c' := own 3 1 vv5 n.vals.length (pre115 ++ ([(vI x114)] ++ post116))) rfl (by show own 3 1 vv5 n.vals.length (n.vals.flatMap intE) = _; rw [hcs117]; rfl)
  refine W.drawn M [0, 1, 2, 3, 4, 5, 6, 7, 8, 9, 10, 11, 12, 13, 14, 15, 16, 17] [15, 17] [] _ _ (sY (sY (sY (sY (sY (sY (sY (sY (sY (sY (sY (sY (sY (sN (sY (sN (sY sE))))))))))))))))) (fun _ h => h) Try.mixed (by kernel_rfl) ?_
  refine tP (Value.pointer (some ⟨b13, 1, none⟩)) rfl (fun w => sP) ?_
  refine tR kv3 rfl (fun A w M => (Step.load1 Try.sc22 rfl ((M.cell 12 rfl 1).trans rfl))) ?_
  refine tP (vI ↑i) rfl (fun w => (Step.move rfl)) ?_
  refine tP (Value.pointer (some ⟨b13, 3, none⟩)) rfl (fun w => sP) ?_
  refine tR vv5 rfl (fun A w M => (Step.load1 Try.sc97 rfl ((M.cell 12 rfl 3).trans rfl))) ?_
  refine tP (vI ↑i) rfl (fun w => (Step.move rfl)) ?_
  refine tP v73 rfl (fun w => (Step.move rfl)) ?_
  refine tP (vI ↑at_) rfl (fun w => (Step.move rfl)) ?_
  refine tP (vQ v73 at_ 1) rfl (fun w => (sX at_ Try.un22 Try.el9 rfl rfl hb98)) ?_
  refine tR (vS x100) rfl (fun A w M => (Step.loadE (k := 0) Try.sc9 (flat_ec (own_slAt (M.chunk 3 rfl).inv) hx100 strE_len) (by decide) rfl rfl)) ?_
  refine tP v85 rfl (fun w => (Step.move rfl)) ?_
  refine tP (vI ↑at_) rfl (fun w => (Step.move rfl)) ?_
  refine tP (vQ v85 at_ 1) rfl (fun w => (sX at_ Try.un97 Try.el3 rfl rfl hb101)) ?_
  refine tR (vI x103) rfl (fun A w M => (Step.loadE (k := 0) Try.sc3 (flat_ec (own_slAt (M.chunk 2 rfl).inv) hx103 intE_len) (by decide) rfl rfl)) ?_
  refine tP (vQ kv3 i 1) rfl (fun w => (sX i Try.un22 Try.el9 rfl rfl hb104)) ?_
  refine TW.act (c' := own 9 1 kv3 n.keys.length (pre107 ++ ([(vS x100)] ++ post108))) 13 rfl rfl (by decide) rfl (sY (sY (sY (sY (sY (sY (sY (sY (sY (sY (sY (sY (sY (sN (sY (sN (sY sE))))))))))))))))) (fun r h => h) (fun A w M => M.storeAt (cells := [(vS x106)]) (cells' := [(vS x100)]) (new := [(vS x100)]) (k := 0) 14 rfl hpre110 Try.el9.sized rfl rfl rfl (cel_cons rfl cel_nil) (by first | omega | (simp only [List.length_set, List.length_append, List.length_cons, List.length_nil]; omega)) (Nat.le_of_ble_eq_true rfl) rfl rfl) ?_
  refine tP (vQ vv5 i 1) rfl (fun w => (sX i Try.un97 Try.el3 rfl rfl hb112)) ?_
  refine TW.act (c' := own 3 1 vv5 n.vals.length (pre115 ++ ([(vI x103)] ++ post116))) 15 rfl rfl (by decide) rfl (sY (sY (sY (sY (sY (sY (sY (sY (sY (sY (sY (sY (sY (sN (sY (sN (sY sE))))))))))))))))) (fun r h => h) (fun A w M => M.storeAt (cells := [(vI x114)]) (cells' := [(vI x103)]) (new := [(vI x103)]) (k := 0) 16 rfl hpre118 Try.el3.sized rfl rfl rfl (cel_cons rfl cel_nil) (by first | omega | (simp only [List.length_set, List.length_append, List.length_cons, List.length_nil]; omega)) (Nat.le_of_ble_eq_true rfl) rfl rfl) ?_
  refine TW.done (fun w120 M => ?_)
  refine W.seq' ?_
  have hsh121 := SlAt.shp (own_slAt (M.chunk 2 rfl).inv)
  have hsh121c := hsh121
  obtain ⟨_, _, hsh121l, hsh121m⟩ := hsh121c
  have hsh122 := SlAt.shp (own_slAt (M.chunk 1 rfl).inv)
  have hsh122c := hsh122
  obtain ⟨_, _, hsh122l, hsh122m⟩ := hsh122c
  refine W.drawn M [0, 1, 2, 3, 4, 5, 6, 7, 8, 9, 10, 11, 12, 13, 14, 15, 16, 17, 18, 19, 20, 21] [15, 17, 19, 21] [] _ _ (sY (sY (sY (sN (sN (sY (sY (sY (sY (sY (sY (sY (sY (sY (sY (sY (sY sE))))))))))))))))) (fun _ h => h) Try.mixed (by kernel_rfl) ?_
  refine tP v73 rfl (fun w => (Step.move rfl)) ?_
  refine tP (vI ↑at_) rfl (fun w => (Step.move rfl)) ?_
  refine tP (vTake at_ v73) rfl (fun w => (Step.sliceToP (h := at_) Try.un22 Try.el9.sized rfl rfl (by omega) hsh121 (by obtain ⟨_, _, _, _⟩ := hsh121; omega))) ?_
  refine tP v85 rfl (fun w => (Step.move rfl)) ?_
  refine tP (vI ↑at_) rfl (fun w => (Step.move rfl)) ?_
  refine tP (vTake at_ v85) rfl (fun w => (Step.sliceToP (h := at_) Try.un97 Try.el3.sized rfl rfl (by omega) hsh122 (by obtain ⟨_, _, _, _⟩ := hsh122; omega))) ?_
  refine tP v73 rfl (fun w => (Step.move rfl)) ?_
  refine tP (vI ↑at_) rfl (fun w => (Step.move rfl)) ?_
  refine tP (vI (↑(at_ + 1))) rfl (fun w => (Step.cast (congrArg (Value.int .i64) (show (↑at_ + 1 : Int) = ↑(at_ + 1) by omega)) (Step.add rfl rfl (wrap_i64 (by omega))))) ?_
  refine tP (vSlice 1 (at_ + 1) ((na_.keys ++ ((n.keys.drop i).take 1 ++ nb_.keys)).length) (vCap v73) v73) rfl (fun w => (Step.sliceFromP (l := at_ + 1) Try.un22 Try.el9.sized rfl rfl (by omega) hsh121 (by omega))) ?_
  refine tP v85 rfl (fun w => (Step.move rfl)) ?_
  refine tP (vI ↑at_) rfl (fun w => (Step.move rfl)) ?_
  refine tP (vI (↑(at_ + 1))) rfl (fun w => (Step.cast (congrArg (Value.int .i64) (show (↑at_ + 1 : Int) = ↑(at_ + 1) by omega)) (Step.add rfl rfl (wrap_i64 (by omega))))) ?_
  refine tP (vSlice 1 (at_ + 1) ((na_.vals ++ ((n.vals.drop i).take 1 ++ nb_.vals)).length) (vCap v85) v85) rfl (fun w => (Step.sliceFromP (l := at_ + 1) Try.un97 Try.el3.sized rfl rfl (by omega) hsh122 (by omega))) ?_
  refine tP (Value.pointer (some ⟨b62, 1, none⟩)) rfl (fun w => sP) ?_
  refine TW.store (v := (vTake at_ v73)) (cs := [(vTake at_ v73)]) (c' := #[(vB na_.leaf), (vTake at_ v73), dv45, vv46]) 4 rfl rfl (by decide) rfl Try.el22.sized rfl rfl (IsSl.list (Shp.isSl (Shp.take hsh121 (k := at_) (by obtain ⟨_, _, _, _⟩ := hsh121; omega)))) rfl (Nat.le_of_ble_eq_true rfl) (cel_cons (IsSl.cel (Shp.isSl (Shp.take hsh121 (k := at_) (by obtain ⟨_, _, _, _⟩ := hsh121; omega)))) cel_nil) rfl rfl (sY (sY (sY (sN (sN (sY (sY (sY (sY (sY (sY (sY (sY (sY (sY (sY (sY sE))))))))))))))))) (fun r h => h) ?_
  refine tP (Value.pointer (some ⟨b62, 3, none⟩)) rfl (fun w => sP) ?_
  refine TW.store (v := (vTake at_ v85)) (cs := [(vTake at_ v85)]) (c' := #[(vB na_.leaf), (vTake at_ v73), dv45, (vTake at_ v85)]) 4 rfl rfl (by decide) rfl Try.el97.sized rfl rfl (IsSl.list (Shp.isSl (Shp.take hsh122 (k := at_) (by obtain ⟨_, _, _, _⟩ := hsh122; omega)))) rfl (Nat.le_of_ble_eq_true rfl) (cel_cons (IsSl.cel (Shp.isSl (Shp.take hsh122 (k := at_) (by obtain ⟨_, _, _, _⟩ := hsh122; omega)))) cel_nil) rfl rfl (sY (sY (sY (sN (sN (sY (sY (sY (sY (sY (sY (sY (sY (sY (sY (sY (sY sE))))))))))))))))) (fun r h => h) ?_
  refine tP (Value.pointer (some ⟨b63, 1, none⟩)) rfl (fun w => sP) ?_
  refine TW.store (v := (vSlice 1 (at_ + 1) ((na_.keys ++ ((n.keys.drop i).take 1 ++ nb_.keys)).length) (vCap v73) v73)) (cs := [(vSlice 1 (at_ + 1) ((na_.keys ++ ((n.keys.drop i).take 1 ++ nb_.keys)).length) (vCap v73) v73)]) (c' := #[(vB nb_.leaf), (vSlice 1 (at_ + 1) ((na_.keys ++ ((n.keys.drop i).take 1 ++ nb_.keys)).length) (vCap v73) v73), dv54, vv55]) 3 rfl rfl (by decide) rfl Try.el22.sized rfl rfl (IsSl.list (vSlice_sl (Shp.isSl hsh121))) rfl (Nat.le_of_ble_eq_true rfl) (cel_cons (IsSl.cel (vSlice_sl (Shp.isSl hsh121))) cel_nil) rfl rfl (sY (sY (sY (sN (sN (sY (sY (sY (sY (sY (sY (sY (sY (sY (sY (sY (sY sE))))))))))))))))) (fun r h => h) ?_
  refine tP (Value.pointer (some ⟨b63, 3, none⟩)) rfl (fun w => sP) ?_
  refine TW.store (v := (vSlice 1 (at_ + 1) ((na_.vals ++ ((n.vals.drop i).take 1 ++ nb_.vals)).length) (vCap v85) v85)) (cs := [(vSlice 1 (at_ + 1) ((na_.vals ++ ((n.vals.drop i).take 1 ++ nb_.vals)).length) (vCap v85) v85)]) (c' := #[(vB nb_.leaf), (vSlice 1 (at_ + 1) ((na_.keys ++ ((n.keys.drop i).take 1 ++ nb_.keys)).length) (vCap v73) v73), dv54, (vSlice 1 (at_ + 1) ((na_.vals ++ ((n.vals.drop i).take 1 ++ nb_.vals)).length) (vCap v85) v85)]) 3 rfl rfl (by decide) rfl Try.el97.sized rfl rfl (IsSl.list (vSlice_sl (Shp.isSl hsh122))) rfl (Nat.le_of_ble_eq_true rfl) (cel_cons (IsSl.cel (vSlice_sl (Shp.isSl hsh122))) cel_nil) rfl rfl (sY (sY (sY (sN (sN (sY (sY (sY (sY (sY (sY (sY (sY (sY (sY (sY (sY sE))))))))))))))))) (fun r h => h) ?_
  refine TW.done (fun w131 M => ?_)
  refine W.seq' (W.seq' ?_)
  replace M := M.sel (L' := [oH v91 (na_.kids ++ nb_.kids), oI v85 (na_.vals ++ ((n.vals.drop i).take 1 ++ nb_.vals)), oS v73 (na_.keys ++ ((n.keys.drop i).take 1 ++ nb_.keys)), bk b63 #[(vB nb_.leaf), (vSlice 1 (at_ + 1) ((na_.keys ++ ((n.keys.drop i).take 1 ++ nb_.keys)).length) (vCap v73) v73), dv54, (vSlice 1 (at_ + 1) ((na_.vals ++ ((n.vals.drop i).take 1 ++ nb_.vals)).length) (vCap v85) v85)] 99, bk b62 #[(vB na_.leaf), (vTake at_ v73), dv45, (vTake at_ v85)] 99, oH dv54 nb_.kids, oH dv45 na_.kids, bk b13 #[(vB n.leaf), kv3, dv4, vv5] 99, arenaC 143 145 S ab l, own 9 1 kv3 n.keys.length (pre107 ++ ([(vS x100)] ++ post108)), oH dv4 n.kids, own 3 1 vv5 n.vals.length (pre115 ++ ([(vI x103)] ++ post116)), bk b1 #[(vI h.at_), (vI h.turn)] 92]) [0, 1, 2, 3, 4, 6, 9, 11, 12, 13, 14, 15, 16] rfl (by decide)
  refine W.region rfl (wP (vP b62) (wS (vB na_.leaf) rfl (Step.load1 Try.sc4 rfl ((M.cell 4 rfl 0).trans rfl)) (wP (vB !na_.leaf) (WL.nil ?_))))
  refine W.cond (t := !na_.leaf) rfl (fun h132 => ?_) (fun h132 => ?_)
  ·
   have hlf_ : na_.leaf = false := by simpa using h132
   have hak_ := hP.ak hlf_
   have hbk_ := hP.bk hlf_
   have hsh133 := SlAt.shp (own_slAt (M.chunk 0 rfl).inv)
   have hsh133c := hsh133
   obtain ⟨_, _, hsh133l, hsh133m⟩ := hsh133c
   refine W.drawn M [0, 1, 2, 3, 4, 5, 6, 7, 8, 9, 10, 11] [9, 11] [] _ _ (sY (sY (sY (sN (sN (sY (sY (sY (sY (sY (sY (sY (sY sE))))))))))))) (fun _ h => h) Try.mixed (by kernel_rfl) ?_
   refine tP v91 rfl (fun w => (Step.move rfl)) ?_
   refine tP (vI ↑at_) rfl (fun w => (Step.move rfl)) ?_
   refine tP (vI (↑(at_ + 1))) rfl (fun w => (Step.cast (congrArg (Value.int .i64) (show (↑at_ + 1 : Int) = ↑(at_ + 1) by omega)) (Step.add rfl rfl (wrap_i64 (by omega))))) ?_
   refine tP (vTake (at_ + 1) v91) rfl (fun w => (Step.sliceToP (h := at_ + 1) Try.un96 Try.el92.sized rfl rfl (by omega) hsh133 (by obtain ⟨_, _, _, _⟩ := hsh133; omega))) ?_
   refine tP v91 rfl (fun w => (Step.move rfl)) ?_
   refine tP (vI ↑at_) rfl (fun w => (Step.move rfl)) ?_
   refine tP (vI (↑(at_ + 1))) rfl (fun w => (Step.cast (congrArg (Value.int .i64) (show (↑at_ + 1 : Int) = ↑(at_ + 1) by omega)) (Step.add rfl rfl (wrap_i64 (by omega))))) ?_
   refine tP (vSlice 2 (at_ + 1) ((na_.kids ++ nb_.kids).length) (vCap v91) v91) rfl (fun w => (Step.sliceFromP (l := at_ + 1) Try.un96 Try.el92.sized rfl rfl (by omega) hsh133 (by omega))) ?_
   refine tP (Value.pointer (some ⟨b62, 2, none⟩)) rfl (fun w => sP) ?_
   refine TW.store (v := (vTake (at_ + 1) v91)) (cs := [(vTake (at_ + 1) v91)]) (c' := #[(vB na_.leaf), (vTake at_ v73), (vTake (at_ + 1) v91), (vTake at_ v85)]) 4 rfl rfl (by decide) rfl Try.el96.sized rfl rfl (IsSl.list (Shp.isSl (Shp.take hsh133 (k := at_ + 1) (by obtain ⟨_, _, _, _⟩ := hsh133; omega)))) rfl (Nat.le_of_ble_eq_true rfl) (cel_cons (IsSl.cel (Shp.isSl (Shp.take hsh133 (k := at_ + 1) (by obtain ⟨_, _, _, _⟩ := hsh133; omega)))) cel_nil) rfl rfl (sY (sY (sY (sN (sN (sY (sY (sY (sY (sY (sY (sY (sY sE))))))))))))) (fun r h => h) ?_
   refine tP (Value.pointer (some ⟨b63, 2, none⟩)) rfl (fun w => sP) ?_
   refine TW.store (v := (vSlice 2 (at_ + 1) ((na_.kids ++ nb_.kids).length) (vCap v91) v91)) (cs := [(vSlice 2 (at_ + 1) ((na_.kids ++ nb_.kids).length) (vCap v91) v91)]) (c' := #[(vB nb_.leaf), (vSlice 1 (at_ + 1) ((na_.keys ++ ((n.keys.drop i).take 1 ++ nb_.keys)).length) (vCap v73) v73), (vSlice 2 (at_ + 1) ((na_.kids ++ nb_.kids).length) (vCap v91) v91), (vSlice 1 (at_ + 1) ((na_.vals ++ ((n.vals.drop i).take 1 ++ nb_.vals)).length) (vCap v85) v85)]) 3 rfl rfl (by decide) rfl Try.el96.sized rfl rfl (IsSl.list (vSlice_sl (Shp.isSl hsh133))) rfl (Nat.le_of_ble_eq_true rfl) (cel_cons (IsSl.cel (vSlice_sl (Shp.isSl hsh133))) cel_nil) rfl rfl (sY (sY (sY (sN (sN (sY (sY (sY (sY (sY (sY (sY (sY sE))))))))))))) (fun r h => h) ?_
   refine TW.done (fun w138 M => ?_)
   refine W.seq' ?_
   replace M := M.loseI 6
   replace M := M.loseI 5
   refine W.drawn M [0, 1, 2, 3, 4, 5, 6, 7] [7] [] _ _ (sY (sY (sY (sY (sY (sY (sN (sY (sY (sY (sY sE))))))))))) (fun _ h => h) Try.mixed (by kernel_rfl) ?_
   refine tP (vP tb) rfl (fun w => (Step.move rfl)) ?_
   refine tP (Value.pointer (some ⟨b13, 2, none⟩)) rfl (fun w => sP) ?_
   refine tR dv4 rfl (fun A w M => (Step.load1 Try.sc96 rfl ((M.cell 6 rfl 2).trans rfl))) ?_
   refine tP (vI ↑i) rfl (fun w => (Step.move rfl)) ?_
   refine tP (vQ dv4 i 2) rfl (fun w => (sX i Try.un96 Try.el92 rfl rfl hb16)) ?_
   refine tR (Value.agg #[(vI x18.at_), (vI x18.turn)]) rfl (fun A w M => (Step.loadEN (k := 0) (cs' := [(vI x18.at_), (vI x18.turn)]) Try.ag92 (flat_ec (own_slAt (M.chunk 8 rfl).inv) hx18 handleE_len) (by decide) rfl rfl rfl)) ?_
   refine tR (Value.agg #[(vB na_.leaf), (vTake at_ v73), (vTake (at_ + 1) v91), (vTake at_ v85)]) rfl (fun A w M => (Step.loadN Try.ag99 rfl (M.blk 5 rfl) (Nat.le_of_ble_eq_true rfl) rfl)) ?_
   let Q : List Chunk := [oH v91 (na_.kids ++ nb_.kids), oI v85 (na_.vals ++ ((n.vals.drop i).take 1 ++ nb_.vals)), oS v73 (na_.keys ++ ((n.keys.drop i).take 1 ++ nb_.keys)), bk b63 #[(vB nb_.leaf), (vSlice 1 (at_ + 1) ((na_.keys ++ ((n.keys.drop i).take 1 ++ nb_.keys)).length) (vCap v73) v73), (vSlice 2 (at_ + 1) ((na_.kids ++ nb_.kids).length) (vCap v91) v91), (vSlice 1 (at_ + 1) ((na_.vals ++ ((n.vals.drop i).take 1 ++ nb_.vals)).length) (vCap v85) v85)] 99, bk b62 #[(vB na_.leaf), (vTake at_ v73), (vTake (at_ + 1) v91), (vTake at_ v85)] 99, bk b13 #[(vB n.leaf), kv3, dv4, vv5] 99, own 9 1 kv3 n.keys.length (pre107 ++ ([(vS x100)] ++ post108)), oH dv4 n.kids, own 3 1 vv5 n.vals.length (pre115 ++ ([(vI x103)] ++ post116)), bk b1 #[(vI h.at_), (vI h.turn)] 92]
   refine TW.callX (ι := (Nat → Prop)) (fun jx v_ => v_ = undef) (fun jx => arenaC 143 145 jx ab ((rput l x18 (⟨na_.leaf, (na_.keys ++ ((n.keys.drop i).take 1 ++ nb_.keys)).take at_, (na_.kids ++ nb_.kids).take (at_ + 1), (na_.vals ++ ((n.vals.drop i).take 1 ++ nb_.vals)).take at_⟩ : Nd)).1) :: Q) (fun jx => [bF tb #[(vP ab), (vI r.at_), (vI r.turn), (vB fu), (vI ln)] 94]) rfl (by decide) rfl (fun jx => (sN (sY (sY (sY (sY (sY (sY (sY (sY (sY (sY sE)))))))))))) (fun jx r h => h) (fun A w M => have fq := M.frm [arenaC 143 145 S ab l] (fl A :: Q) [7, 0, 1, 2, 3, 4, 5, 6, 8, 9, 10, 11] rfl; Rets.mono (tr_put tb ab r fu ln l S x18 (vTake at_ v73) (vTake (at_ + 1) v91) (vTake at_ v85) (⟨na_.leaf, (na_.keys ++ ((n.keys.drop i).take 1 ++ nb_.keys)).take at_, (na_.kids ++ nb_.kids).take (at_ + 1), (na_.vals ++ ((n.vals.drop i).take 1 ++ nb_.vals)).take at_⟩ : Nd) (by assumption) (by simp [insL] <;> omega) (by simp [insL] <;> omega) (by simp [insL] <;> omega) (M.eF fq ⟨(M.rF fq 0 rfl), ((((M.cF fq 3 rfl).imp fun _ h => own_slAt h)).imp fun _ h => slat_take strE_len h (by omega)), ((((M.cF fq 1 rfl).imp fun _ h => own_slAt h)).imp fun _ h => slat_take handleE_len h (by omega)), ((((M.cF fq 2 rfl).imp fun _ h => own_slAt h)).imp fun _ h => slat_take intE_len h (by omega)), trivial⟩)) (fun v_ w_ ⟨S141, e_, m⟩ => ⟨S141, e_, (M.lF fq m).sel [1, 0, 2, 3, 4, 5, 6, 7, 8, 9, 10, 11] rfl (by decide), fun b hb => M.kF fq m b hb⟩)) (fun w => CallsF.func Try.en84 rfl) (fun S141 v hp hin => ?_)
   replace hp := hp.symm; subst hp
   obtain ⟨_, _, hin⟩ := hin
   clear hin
   refine TW.done (fun w142 M => ?_)
   refine W.seq' ?_
   replace M := M.loseI 5
   obtain ⟨l1_, hl1_⟩ : ∃ q, ((rput l x18 (⟨na_.leaf, (na_.keys ++ ((n.keys.drop i).take 1 ++ nb_.keys)).take at_, (na_.kids ++ nb_.kids).take (at_ + 1), (na_.vals ++ ((n.vals.drop i).take 1 ++ nb_.vals)).take at_⟩ : Nd)).1) = q := ⟨_, rfl⟩
   have hAl1_ : SmallA l1_ := by rw [← hl1_]; first | exact SmallA.put (by assumption) (by first | omega | (simp [insL] <;> omega)) (by first | omega | (simp [insL] <;> omega)) (by first | omega | (simp [insL] <;> omega)) | exact SmallA.free (by assumption)
   replace M := M.rechunk 0 (c' := arenaC 143 145 S141 ab l1_) rfl (by rw [hl1_])
   refine W.drawn M [0, 1, 2, 3, 4, 5, 6, 7, 8] [8] [] _ _ (sN (sY (sY (sY (sY (sY (sY (sY (sY (sY sE)))))))))) (fun _ h => h) Try.mixed (by kernel_rfl) ?_
   refine tP (vP tb) rfl (fun w => (Step.move rfl)) ?_
   refine tP (Value.pointer (some ⟨b13, 2, none⟩)) rfl (fun w => sP) ?_
   refine tR dv4 rfl (fun A w M => (Step.load1 Try.sc96 rfl ((M.cell 5 rfl 2).trans rfl))) ?_
   refine tP (vI ↑i) rfl (fun w => (Step.move rfl)) ?_
   refine tP (vI (↑(i + 1))) rfl (fun w => (Step.cast (congrArg (Value.int .i64) (show (↑i + 1 : Int) = ↑(i + 1) by omega)) (Step.add rfl rfl (wrap_i64 (by omega))))) ?_
   refine tP (vQ dv4 (i + 1) 2) rfl (fun w => (sX (i + 1) Try.un96 Try.el92 rfl rfl hb16)) ?_
   refine tR (Value.agg #[(vI x22.at_), (vI x22.turn)]) rfl (fun A w M => (Step.loadEN (k := 0) (cs' := [(vI x22.at_), (vI x22.turn)]) Try.ag92 (flat_ec (own_slAt (M.chunk 7 rfl).inv) hx22 handleE_len) (by decide) rfl rfl rfl)) ?_
   refine tR (Value.agg #[(vB nb_.leaf), (vSlice 1 (at_ + 1) ((na_.keys ++ ((n.keys.drop i).take 1 ++ nb_.keys)).length) (vCap v73) v73), (vSlice 2 (at_ + 1) ((na_.kids ++ nb_.kids).length) (vCap v91) v91), (vSlice 1 (at_ + 1) ((na_.vals ++ ((n.vals.drop i).take 1 ++ nb_.vals)).length) (vCap v85) v85)]) rfl (fun A w M => (Step.loadN Try.ag99 rfl (M.blk 4 rfl) (Nat.le_of_ble_eq_true rfl) rfl)) ?_
   let Q : List Chunk := [oH v91 (na_.kids ++ nb_.kids), oI v85 (na_.vals ++ ((n.vals.drop i).take 1 ++ nb_.vals)), oS v73 (na_.keys ++ ((n.keys.drop i).take 1 ++ nb_.keys)), bk b63 #[(vB nb_.leaf), (vSlice 1 (at_ + 1) ((na_.keys ++ ((n.keys.drop i).take 1 ++ nb_.keys)).length) (vCap v73) v73), (vSlice 2 (at_ + 1) ((na_.kids ++ nb_.kids).length) (vCap v91) v91), (vSlice 1 (at_ + 1) ((na_.vals ++ ((n.vals.drop i).take 1 ++ nb_.vals)).length) (vCap v85) v85)] 99, bk b13 #[(vB n.leaf), kv3, dv4, vv5] 99, own 9 1 kv3 n.keys.length (pre107 ++ ([(vS x100)] ++ post108)), oH dv4 n.kids, own 3 1 vv5 n.vals.length (pre115 ++ ([(vI x103)] ++ post116)), bk b1 #[(vI h.at_), (vI h.turn)] 92]
   refine TW.callX (ι := (Nat → Prop)) (fun jx v_ => v_ = undef) (fun jx => arenaC 143 145 jx ab ((rput l1_ x22 (⟨nb_.leaf, ((na_.keys ++ ((n.keys.drop i).take 1 ++ nb_.keys)).drop (at_ + 1)).take (((na_.keys ++ ((n.keys.drop i).take 1 ++ nb_.keys)).length) - (at_ + 1)), ((na_.kids ++ nb_.kids).drop (at_ + 1)).take (((na_.kids ++ nb_.kids).length) - (at_ + 1)), ((na_.vals ++ ((n.vals.drop i).take 1 ++ nb_.vals)).drop (at_ + 1)).take (((na_.vals ++ ((n.vals.drop i).take 1 ++ nb_.vals)).length) - (at_ + 1))⟩ : Nd)).1) :: Q) (fun jx => [bF tb #[(vP ab), (vI r.at_), (vI r.turn), (vB fu), (vI ln)] 94]) rfl (by decide) rfl (fun jx => (sN (sY (sY (sY (sY (sY (sY (sY (sY (sY sE))))))))))) (fun jx r h => h) (fun A w M => have fq := M.frm [arenaC 143 145 S141 ab l1_] (fl A :: Q) [1, 0, 2, 3, 4, 5, 6, 7, 8, 9, 10] rfl; Rets.mono (tr_put tb ab r fu ln l1_ S141 x22 (vSlice 1 (at_ + 1) ((na_.keys ++ ((n.keys.drop i).take 1 ++ nb_.keys)).length) (vCap v73) v73) (vSlice 2 (at_ + 1) ((na_.kids ++ nb_.kids).length) (vCap v91) v91) (vSlice 1 (at_ + 1) ((na_.vals ++ ((n.vals.drop i).take 1 ++ nb_.vals)).length) (vCap v85) v85) (⟨nb_.leaf, ((na_.keys ++ ((n.keys.drop i).take 1 ++ nb_.keys)).drop (at_ + 1)).take (((na_.keys ++ ((n.keys.drop i).take 1 ++ nb_.keys)).length) - (at_ + 1)), ((na_.kids ++ nb_.kids).drop (at_ + 1)).take (((na_.kids ++ nb_.kids).length) - (at_ + 1)), ((na_.vals ++ ((n.vals.drop i).take 1 ++ nb_.vals)).drop (at_ + 1)).take (((na_.vals ++ ((n.vals.drop i).take 1 ++ nb_.vals)).length) - (at_ + 1))⟩ : Nd) (by assumption) (by simp [insL] <;> omega) (by simp [insL] <;> omega) (by simp [insL] <;> omega) (M.eF fq ⟨(M.rF fq 0 rfl), ((((M.cF fq 3 rfl).imp fun _ h => own_slAt h)).imp fun _ h => slat_sliceF strE_len (l := at_ + 1) (h := (na_.keys ++ ((n.keys.drop i).take 1 ++ nb_.keys)).length) h (by omega) (by omega) (Nat.le_trans (by omega) (SlAt.cap h).1) (Nat.le_refl _)), ((((M.cF fq 1 rfl).imp fun _ h => own_slAt h)).imp fun _ h => slat_sliceF handleE_len (l := at_ + 1) (h := (na_.kids ++ nb_.kids).length) h (by omega) (by omega) (Nat.le_trans (by omega) (SlAt.cap h).1) (Nat.le_refl _)), ((((M.cF fq 2 rfl).imp fun _ h => own_slAt h)).imp fun _ h => slat_sliceF intE_len (l := at_ + 1) (h := (na_.vals ++ ((n.vals.drop i).take 1 ++ nb_.vals)).length) h (by omega) (by omega) (Nat.le_trans (by omega) (SlAt.cap h).1) (Nat.le_refl _)), trivial⟩)) (fun v_ w_ ⟨S145, e_, m⟩ => ⟨S145, e_, (M.lF fq m).sel [1, 0, 2, 3, 4, 5, 6, 7, 8, 9, 10] rfl (by decide), fun b hb => M.kF fq m b hb⟩)) (fun w => CallsF.func Try.en84 rfl) (fun S145 v hp hin => ?_)
   replace hp := hp.symm; subst hp
   obtain ⟨_, _, hin⟩ := hin
   clear hin
   refine TW.done (fun w146 M => ?_)
   replace M := M.loseI 4
   replace M := M.loseI 3
   replace M := M.loseI 2
   replace M := M.loseI 1
   obtain ⟨l2_, hl2_⟩ : ∃ q, ((rput l1_ x22 (⟨nb_.leaf, ((na_.keys ++ ((n.keys.drop i).take 1 ++ nb_.keys)).drop (at_ + 1)).take (((na_.keys ++ ((n.keys.drop i).take 1 ++ nb_.keys)).length) - (at_ + 1)), ((na_.kids ++ nb_.kids).drop (at_ + 1)).take (((na_.kids ++ nb_.kids).length) - (at_ + 1)), ((na_.vals ++ ((n.vals.drop i).take 1 ++ nb_.vals)).drop (at_ + 1)).take (((na_.vals ++ ((n.vals.drop i).take 1 ++ nb_.vals)).length) - (at_ + 1))⟩ : Nd)).1) = q := ⟨_, rfl⟩
   have hAl2_ : SmallA l2_ := by rw [← hl2_]; first | exact SmallA.put (by assumption) (by first | omega | (simp [insL] <;> omega)) (by first | omega | (simp [insL] <;> omega)) (by first | omega | (simp [insL] <;> omega)) | exact SmallA.free (by assumption)
   replace M := M.rechunk 0 (c' := arenaC 143 145 S145 ab l2_) rfl (by rw [hl2_])
   refine W.region rfl (wM (vP tb) (wS (Value.agg #[(vI h.at_), (vI h.turn)]) rfl (Step.loadN Try.ag92 rfl (M.blk 5 rfl) (Nat.le_of_ble_eq_true rfl) rfl) (wS (Value.agg #[(vB n.leaf), kv3, dv4, vv5]) rfl (Step.loadN Try.ag99 rfl (M.blk 1 rfl) (Nat.le_of_ble_eq_true rfl) rfl) ?_)))
   replace M := M.rechunk 2 (c' := own 9 1 kv3 (n.keys.length) ((n.keys.set i x100).flatMap strE)) rfl (by rw [← hback111]; rfl)
   replace M := M.rechunk 2 (c' := oS kv3 (n.keys.set i x100)) rfl (by show _ = own 9 1 kv3 ((n.keys.set i x100).length) ((n.keys.set i x100).flatMap strE); rw [List.length_set])
   replace M := M.rechunk 4 (c' := own 3 1 vv5 (n.vals.length) ((n.vals.set i x103).flatMap intE)) rfl (by rw [← hback119]; rfl)
   replace M := M.rechunk 4 (c' := oI vv5 (n.vals.set i x103)) rfl (by show _ = own 3 1 vv5 ((n.vals.set i x103).length) ((n.vals.set i x103).flatMap intE); rw [List.length_set])
   have fq := M.frm [arenaC 143 145 S145 ab l2_] [bk b13 #[(vB n.leaf), kv3, dv4, vv5] 99, oS kv3 (n.keys.set i x100), oH dv4 n.kids, oI vv5 (n.vals.set i x103), bk b1 #[(vI h.at_), (vI h.turn)] 92] [0, 1, 2, 3, 4, 5] rfl
   refine WL.callX rfl (tr_put tb ab r fu ln l2_ S145 h kv3 dv4 vv5 (⟨n.leaf, n.keys.set i x100, n.kids, n.vals.set i x103⟩ : Nd) (by assumption) (by simp [insL] <;> omega) (by simp [insL] <;> omega) (by simp [insL] <;> omega) (M.eF fq ⟨(M.rF fq 0 rfl), ((M.cF fq 1 rfl).imp fun _ h => own_slAt h), ((M.cF fq 2 rfl).imp fun _ h => own_slAt h), ((M.cF fq 3 rfl).imp fun _ h => own_slAt h), trivial⟩)) (CallsF.func Try.en84 rfl) ?_
   rintro _ w148 ⟨S147, rfl, m⟩
   replace M := M.lF fq m
   clear m
   refine WL.nil ?_
   refine ⟨.inr rfl, undef, ?_, ?_⟩
   · exact ⟨rfl, Res.none⟩
   have e149 : (turnF l h i lw) = (rput l2_ h (⟨n.leaf, n.keys.set i x100, n.kids, n.vals.set i x103⟩ : Nd)).1 := by
    rw [turnF_eq (at_ := at_) hn hgd1_ hgd2_ hna_ hnb_ hat_]
    subst hl2_
    subst hl1_
    simp only [drop_rest]
    simp [hlf_, hlfb_, drop_rest, List.getD, hx18, hx22, hx100, hx103, hx106, hx114, h132]
   replace M := M.rechunk 0 (c' := arenaC 143 145 S147 ab (turnF l h i lw)) rfl (congrArg (fun z => arenaC 143 145 S147 ab z) e149.symm)
   refine ⟨S147, ?_, M.close [0] rfl (by decide) trivial⟩
   rfl
  ·
   have hlf_ : na_.leaf = true := by simpa using h132
   refine W.skip (W.seq' ?_)
   replace M := M.loseI 0
   refine W.drawn M [0, 1, 2, 3, 4, 5, 6, 7] [7] [] _ _ (sY (sY (sY (sY (sY (sY (sY (sN (sY (sY (sY (sY sE)))))))))))) (fun _ h => h) Try.mixed (by kernel_rfl) ?_
   refine tP (vP tb) rfl (fun w => (Step.move rfl)) ?_
   refine tP (Value.pointer (some ⟨b13, 2, none⟩)) rfl (fun w => sP) ?_
   refine tR dv4 rfl (fun A w M => (Step.load1 Try.sc96 rfl ((M.cell 7 rfl 2).trans rfl))) ?_
   refine tP (vI ↑i) rfl (fun w => (Step.move rfl)) ?_
   refine tP (vQ dv4 i 2) rfl (fun w => (sX i Try.un96 Try.el92 rfl rfl hb16)) ?_
   refine tR (Value.agg #[(vI x18.at_), (vI x18.turn)]) rfl (fun A w M => (Step.loadEN (k := 0) (cs' := [(vI x18.at_), (vI x18.turn)]) Try.ag92 (flat_ec (own_slAt (M.chunk 9 rfl).inv) hx18 handleE_len) (by decide) rfl rfl rfl)) ?_
   refine tR (Value.agg #[(vB na_.leaf), (vTake at_ v73), dv45, (vTake at_ v85)]) rfl (fun A w M => (Step.loadN Try.ag99 rfl (M.blk 4 rfl) (Nat.le_of_ble_eq_true rfl) rfl)) ?_
   let Q : List Chunk := [oI v85 (na_.vals ++ ((n.vals.drop i).take 1 ++ nb_.vals)), oS v73 (na_.keys ++ ((n.keys.drop i).take 1 ++ nb_.keys)), bk b63 #[(vB nb_.leaf), (vSlice 1 (at_ + 1) ((na_.keys ++ ((n.keys.drop i).take 1 ++ nb_.keys)).length) (vCap v73) v73), dv54, (vSlice 1 (at_ + 1) ((na_.vals ++ ((n.vals.drop i).take 1 ++ nb_.vals)).length) (vCap v85) v85)] 99, bk b62 #[(vB na_.leaf), (vTake at_ v73), dv45, (vTake at_ v85)] 99, oH dv54 nb_.kids, oH dv45 na_.kids, bk b13 #[(vB n.leaf), kv3, dv4, vv5] 99, own 9 1 kv3 n.keys.length (pre107 ++ ([(vS x100)] ++ post108)), oH dv4 n.kids, own 3 1 vv5 n.vals.length (pre115 ++ ([(vI x103)] ++ post116)), bk b1 #[(vI h.at_), (vI h.turn)] 92]
   refine TW.callX (ι := (Nat → Prop)) (fun jx v_ => v_ = undef) (fun jx => arenaC 143 145 jx ab ((rput l x18 (⟨na_.leaf, (na_.keys ++ ((n.keys.drop i).take 1 ++ nb_.keys)).take at_, na_.kids, (na_.vals ++ ((n.vals.drop i).take 1 ++ nb_.vals)).take at_⟩ : Nd)).1) :: Q) (fun jx => [bF tb #[(vP ab), (vI r.at_), (vI r.turn), (vB fu), (vI ln)] 94]) rfl (by decide) rfl (fun jx => (sN (sY (sY (sY (sY (sY (sY (sY (sY (sY (sY (sY sE))))))))))))) (fun jx r h => h) (fun A w M => have fq := M.frm [arenaC 143 145 S ab l] (fl A :: Q) [8, 0, 1, 2, 3, 4, 5, 6, 7, 9, 10, 11, 12] rfl; Rets.mono (tr_put tb ab r fu ln l S x18 (vTake at_ v73) dv45 (vTake at_ v85) (⟨na_.leaf, (na_.keys ++ ((n.keys.drop i).take 1 ++ nb_.keys)).take at_, na_.kids, (na_.vals ++ ((n.vals.drop i).take 1 ++ nb_.vals)).take at_⟩ : Nd) (by assumption) (by simp [insL] <;> omega) (by simp [insL] <;> omega) (by simp [insL] <;> omega) (M.eF fq ⟨(M.rF fq 0 rfl), ((((M.cF fq 2 rfl).imp fun _ h => own_slAt h)).imp fun _ h => slat_take strE_len h (by omega)), ((M.cF fq 6 rfl).imp fun _ h => own_slAt h), ((((M.cF fq 1 rfl).imp fun _ h => own_slAt h)).imp fun _ h => slat_take intE_len h (by omega)), trivial⟩)) (fun v_ w_ ⟨S152, e_, m⟩ => ⟨S152, e_, (M.lF fq m).sel [1, 0, 2, 3, 4, 5, 6, 7, 8, 9, 10, 11, 12] rfl (by decide), fun b hb => M.kF fq m b hb⟩)) (fun w => CallsF.func Try.en84 rfl) (fun S152 v hp hin => ?_)
   replace hp := hp.symm; subst hp
   obtain ⟨_, _, hin⟩ := hin
   clear hin
   refine TW.done (fun w153 M => ?_)
   refine W.seq' ?_
   replace M := M.loseI 6
   replace M := M.loseI 4
   obtain ⟨l1_, hl1_⟩ : ∃ q, ((rput l x18 (⟨na_.leaf, (na_.keys ++ ((n.keys.drop i).take 1 ++ nb_.keys)).take at_, na_.kids, (na_.vals ++ ((n.vals.drop i).take 1 ++ nb_.vals)).take at_⟩ : Nd)).1) = q := ⟨_, rfl⟩
   have hAl1_ : SmallA l1_ := by rw [← hl1_]; first | exact SmallA.put (by assumption) (by first | omega | (simp [insL] <;> omega)) (by first | omega | (simp [insL] <;> omega)) (by first | omega | (simp [insL] <;> omega)) | exact SmallA.free (by assumption)
   replace M := M.rechunk 0 (c' := arenaC 143 145 S152 ab l1_) rfl (by rw [hl1_])
   refine W.drawn M [0, 1, 2, 3, 4, 5, 6, 7, 8] [8] [] _ _ (sN (sY (sY (sY (sY (sY (sY (sY (sY (sY sE)))))))))) (fun _ h => h) Try.mixed (by kernel_rfl) ?_
   refine tP (vP tb) rfl (fun w => (Step.move rfl)) ?_
   refine tP (Value.pointer (some ⟨b13, 2, none⟩)) rfl (fun w => sP) ?_
   refine tR dv4 rfl (fun A w M => (Step.load1 Try.sc96 rfl ((M.cell 5 rfl 2).trans rfl))) ?_
   refine tP (vI ↑i) rfl (fun w => (Step.move rfl)) ?_
   refine tP (vI (↑(i + 1))) rfl (fun w => (Step.cast (congrArg (Value.int .i64) (show (↑i + 1 : Int) = ↑(i + 1) by omega)) (Step.add rfl rfl (wrap_i64 (by omega))))) ?_
   refine tP (vQ dv4 (i + 1) 2) rfl (fun w => (sX (i + 1) Try.un96 Try.el92 rfl rfl hb16)) ?_
   refine tR (Value.agg #[(vI x22.at_), (vI x22.turn)]) rfl (fun A w M => (Step.loadEN (k := 0) (cs' := [(vI x22.at_), (vI x22.turn)]) Try.ag92 (flat_ec (own_slAt (M.chunk 7 rfl).inv) hx22 handleE_len) (by decide) rfl rfl rfl)) ?_
   refine tR (Value.agg #[(vB nb_.leaf), (vSlice 1 (at_ + 1) ((na_.keys ++ ((n.keys.drop i).take 1 ++ nb_.keys)).length) (vCap v73) v73), dv54, (vSlice 1 (at_ + 1) ((na_.vals ++ ((n.vals.drop i).take 1 ++ nb_.vals)).length) (vCap v85) v85)]) rfl (fun A w M => (Step.loadN Try.ag99 rfl (M.blk 3 rfl) (Nat.le_of_ble_eq_true rfl) rfl)) ?_
   let Q : List Chunk := [oI v85 (na_.vals ++ ((n.vals.drop i).take 1 ++ nb_.vals)), oS v73 (na_.keys ++ ((n.keys.drop i).take 1 ++ nb_.keys)), bk b63 #[(vB nb_.leaf), (vSlice 1 (at_ + 1) ((na_.keys ++ ((n.keys.drop i).take 1 ++ nb_.keys)).length) (vCap v73) v73), dv54, (vSlice 1 (at_ + 1) ((na_.vals ++ ((n.vals.drop i).take 1 ++ nb_.vals)).length) (vCap v85) v85)] 99, oH dv54 nb_.kids, bk b13 #[(vB n.leaf), kv3, dv4, vv5] 99, own 9 1 kv3 n.keys.length (pre107 ++ ([(vS x100)] ++ post108)), oH dv4 n.kids, own 3 1 vv5 n.vals.length (pre115 ++ ([(vI x103)] ++ post116)), bk b1 #[(vI h.at_), (vI h.turn)] 92]
   refine TW.callX (ι := (Nat → Prop)) (fun jx v_ => v_ = undef) (fun jx => arenaC 143 145 jx ab ((rput l1_ x22 (⟨nb_.leaf, ((na_.keys ++ ((n.keys.drop i).take 1 ++ nb_.keys)).drop (at_ + 1)).take (((na_.keys ++ ((n.keys.drop i).take 1 ++ nb_.keys)).length) - (at_ + 1)), nb_.kids, ((na_.vals ++ ((n.vals.drop i).take 1 ++ nb_.vals)).drop (at_ + 1)).take (((na_.vals ++ ((n.vals.drop i).take 1 ++ nb_.vals)).length) - (at_ + 1))⟩ : Nd)).1) :: Q) (fun jx => [bF tb #[(vP ab), (vI r.at_), (vI r.turn), (vB fu), (vI ln)] 94]) rfl (by decide) rfl (fun jx => (sN (sY (sY (sY (sY (sY (sY (sY (sY (sY sE))))))))))) (fun jx r h => h) (fun A w M => have fq := M.frm [arenaC 143 145 S152 ab l1_] (fl A :: Q) [1, 0, 2, 3, 4, 5, 6, 7, 8, 9, 10] rfl; Rets.mono (tr_put tb ab r fu ln l1_ S152 x22 (vSlice 1 (at_ + 1) ((na_.keys ++ ((n.keys.drop i).take 1 ++ nb_.keys)).length) (vCap v73) v73) dv54 (vSlice 1 (at_ + 1) ((na_.vals ++ ((n.vals.drop i).take 1 ++ nb_.vals)).length) (vCap v85) v85) (⟨nb_.leaf, ((na_.keys ++ ((n.keys.drop i).take 1 ++ nb_.keys)).drop (at_ + 1)).take (((na_.keys ++ ((n.keys.drop i).take 1 ++ nb_.keys)).length) - (at_ + 1)), nb_.kids, ((na_.vals ++ ((n.vals.drop i).take 1 ++ nb_.vals)).drop (at_ + 1)).take (((na_.vals ++ ((n.vals.drop i).take 1 ++ nb_.vals)).length) - (at_ + 1))⟩ : Nd) (by assumption) (by simp [insL] <;> omega) (by simp [insL] <;> omega) (by simp [insL] <;> omega) (M.eF fq ⟨(M.rF fq 0 rfl), ((((M.cF fq 2 rfl).imp fun _ h => own_slAt h)).imp fun _ h => slat_sliceF strE_len (l := at_ + 1) (h := (na_.keys ++ ((n.keys.drop i).take 1 ++ nb_.keys)).length) h (by omega) (by omega) (Nat.le_trans (by omega) (SlAt.cap h).1) (Nat.le_refl _)), ((M.cF fq 4 rfl).imp fun _ h => own_slAt h), ((((M.cF fq 1 rfl).imp fun _ h => own_slAt h)).imp fun _ h => slat_sliceF intE_len (l := at_ + 1) (h := (na_.vals ++ ((n.vals.drop i).take 1 ++ nb_.vals)).length) h (by omega) (by omega) (Nat.le_trans (by omega) (SlAt.cap h).1) (Nat.le_refl _)), trivial⟩)) (fun v_ w_ ⟨S156, e_, m⟩ => ⟨S156, e_, (M.lF fq m).sel [1, 0, 2, 3, 4, 5, 6, 7, 8, 9, 10] rfl (by decide), fun b hb => M.kF fq m b hb⟩)) (fun w => CallsF.func Try.en84 rfl) (fun S156 v hp hin => ?_)
   replace hp := hp.symm; subst hp
   obtain ⟨_, _, hin⟩ := hin
   clear hin
   refine TW.done (fun w157 M => ?_)
   replace M := M.loseI 4
   replace M := M.loseI 3
   replace M := M.loseI 2
   replace M := M.loseI 1
   obtain ⟨l2_, hl2_⟩ : ∃ q, ((rput l1_ x22 (⟨nb_.leaf, ((na_.keys ++ ((n.keys.drop i).take 1 ++ nb_.keys)).drop (at_ + 1)).take (((na_.keys ++ ((n.keys.drop i).take 1 ++ nb_.keys)).length) - (at_ + 1)), nb_.kids, ((na_.vals ++ ((n.vals.drop i).take 1 ++ nb_.vals)).drop (at_ + 1)).take (((na_.vals ++ ((n.vals.drop i).take 1 ++ nb_.vals)).length) - (at_ + 1))⟩ : Nd)).1) = q := ⟨_, rfl⟩
   have hAl2_ : SmallA l2_ := by rw [← hl2_]; first | exact SmallA.put (by assumption) (by first | omega | (simp [insL] <;> omega)) (by first | omega | (simp [insL] <;> omega)) (by first | omega | (simp [insL] <;> omega)) | exact SmallA.free (by assumption)
   replace M := M.rechunk 0 (c' := arenaC 143 145 S156 ab l2_) rfl (by rw [hl2_])
   refine W.region rfl (wM (vP tb) (wS (Value.agg #[(vI h.at_), (vI h.turn)]) rfl (Step.loadN Try.ag92 rfl (M.blk 5 rfl) (Nat.le_of_ble_eq_true rfl) rfl) (wS (Value.agg #[(vB n.leaf), kv3, dv4, vv5]) rfl (Step.loadN Try.ag99 rfl (M.blk 1 rfl) (Nat.le_of_ble_eq_true rfl) rfl) ?_)))
   replace M := M.rechunk 2 (c' := own 9 1 kv3 (n.keys.length) ((n.keys.set i x100).flatMap strE)) rfl (by rw [← hback111]; rfl)
   replace M := M.rechunk 2 (c' := oS kv3 (n.keys.set i x100)) rfl (by show _ = own 9 1 kv3 ((n.keys.set i x100).length) ((n.keys.set i x100).flatMap strE); rw [List.length_set])
   replace M := M.rechunk 4 (c' := own 3 1 vv5 (n.vals.length) ((n.vals.set i x103).flatMap intE)) rfl (by rw [← hback119]; rfl)
   replace M := M.rechunk 4 (c' := oI vv5 (n.vals.set i x103)) rfl (by show _ = own 3 1 vv5 ((n.vals.set i x103).length) ((n.vals.set i x103).flatMap intE); rw [List.length_set])
   have fq := M.frm [arenaC 143 145 S156 ab l2_] [bk b13 #[(vB n.leaf), kv3, dv4, vv5] 99, oS kv3 (n.keys.set i x100), oH dv4 n.kids, oI vv5 (n.vals.set i x103), bk b1 #[(vI h.at_), (vI h.turn)] 92] [0, 1, 2, 3, 4, 5] rfl
   refine WL.callX rfl (tr_put tb ab r fu ln l2_ S156 h kv3 dv4 vv5 (⟨n.leaf, n.keys.set i x100, n.kids, n.vals.set i x103⟩ : Nd) (by assumption) (by simp [insL] <;> omega) (by simp [insL] <;> omega) (by simp [insL] <;> omega) (M.eF fq ⟨(M.rF fq 0 rfl), ((M.cF fq 1 rfl).imp fun _ h => own_slAt h), ((M.cF fq 2 rfl).imp fun _ h => own_slAt h), ((M.cF fq 3 rfl).imp fun _ h => own_slAt h), trivial⟩)) (CallsF.func Try.en84 rfl) ?_
   rintro _ w159 ⟨S158, rfl, m⟩
   replace M := M.lF fq m
   clear m
   refine WL.nil ?_
   refine ⟨.inr rfl, undef, ?_, ?_⟩
   · exact ⟨rfl, Res.none⟩
   have e160 : (turnF l h i lw) = (rput l2_ h (⟨n.leaf, n.keys.set i x100, n.kids, n.vals.set i x103⟩ : Nd)).1 := by
    rw [turnF_eq (at_ := at_) hn hgd1_ hgd2_ hna_ hnb_ hat_]
    subst hl2_
    subst hl1_
    simp only [drop_rest]
    simp [hlf_, hlfb_, drop_rest, List.getD, hx18, hx22, hx100, hx103, hx106, hx114, h132]
   replace M := M.rechunk 0 (c' := arenaC 143 145 S158 ab (turnF l h i lw)) rfl (congrArg (fun z => arenaC 143 145 S158 ab z) e160.symm)
   refine ⟨S158, ?_, M.close [0] rfl (by decide) trivial⟩
   rfl
end Go.Proofs
set_option maxRecDepth 100000
namespace Go.Proofs
open Go Tp
theorem Try.en50 : Enters Try.prog 50 := fun _ _ => by kernel_rfl
theorem Try.en89 : Enters Try.prog 89 := fun _ _ => by kernel_rfl
theorem Try.en90 : Enters Try.prog 90 := fun _ _ => by kernel_rfl
theorem Try.en130 : Enters Try.prog 130 := fun _ _ => by kernel_rfl
set_option maxHeartbeats 4000000 in
theorem tr_join {G X : Nat → Prop} {w : World} (tb ab : Nat) (r : Handle) (fu : Bool) (ln : Int) (l : List RPlace) (S : Nat → Prop) (h : Handle) (i : Nat)  (hO : pairOk l h i) (M : Mem G X w [arenaC 143 145 S ab l] [bF tb #[(vP ab), (vI r.at_), (vI r.turn), (vB fu), (vI ln)] 94] w) : Rets Try.prog 120 #[(vP tb), (Value.agg #[(vI h.at_), (vI h.turn)]), (vI ↑i)] w fun r w' => ∃ (S' : Nat → Prop), r = undef ∧ Mem G X w [arenaC 143 145 S' ab (joinF l h i)] [] w' := by
 refine Rets.enter 106 _ Try.func120 rfl Try.ntmps120 Try.results120 (by simp) ?_
 obtain ⟨n, hn⟩ : ∃ n, (rget l h).1 = n := ⟨_, rfl⟩
 obtain ⟨hA, hty, hvl, hin_, hkn_⟩ := pairOk_n hO hn
 obtain ⟨ht1, ht2, ht3⟩ := hty
 refine wR ?_
 refine WL.box (v := (Value.agg #[(vI h.at_), (vI h.turn)])) (c := #[(vI h.at_), (vI h.turn)]) M rfl rfl rfl (fun b1 w2 hb1 M => ?_)
 refine WL.nil (wR (wM (vP tb) (wS (Value.agg #[(vI h.at_), (vI h.turn)]) rfl (Step.loadN Try.ag92 rfl (M.blk 0 rfl) (Nat.le_of_ble_eq_true rfl) rfl) ?_)))
 have fq := M.frm [arenaC 143 145 S ab l] [bk b1 #[(vI h.at_), (vI h.turn)] 92] [1, 0] rfl
 refine WL.callX rfl (tr_node tb ab r fu ln l S h (by assumption) n hn (M.eF fq ⟨(M.rF fq 0 rfl), trivial⟩)) (CallsF.func Try.en49 rfl) ?_
 rintro _ w6 ⟨kv3, dv4, vv5, rfl, m⟩
 replace M := M.lF fq m
 clear m
 have sl7 : IsSl kv3 := SlAt.isSl (own_slAt (Mem.chunk M 1 rfl).inv)
 have hle8 := SlAt.le' (own_slAt (Mem.chunk M 1 rfl).inv)
 have sl9 : IsSl dv4 := SlAt.isSl (own_slAt (Mem.chunk M 2 rfl).inv)
 have hle10 := SlAt.le' (own_slAt (Mem.chunk M 2 rfl).inv)
 have sl11 : IsSl vv5 := SlAt.isSl (own_slAt (Mem.chunk M 3 rfl).inv)
 have hle12 := SlAt.le' (own_slAt (Mem.chunk M 3 rfl).inv)
 refine WL.alloc (c := #[(vB false), vZ, vZ, vZ]) M rfl Try.el99.zero rfl (fun b13 w14 hb13 M => ?_)
 refine WL.store (v := (Value.agg #[(vB n.leaf), kv3, dv4, vv5])) (cs := [(vB n.leaf), kv3, dv4, vv5]) (c' := #[(vB n.leaf), kv3, dv4, vv5]) M 0 rfl rfl Try.el99.sized rfl rfl rfl rfl (Nat.le_of_ble_eq_true rfl) (cel_cons rfl (cel_cons (IsSl.cel sl7) (cel_cons (IsSl.cel sl9) (cel_cons (IsSl.cel sl11) cel_nil)))) rfl rfl (fun w15 M => ?_)
 refine WL.nil (W.seq' ?_)
 obtain ⟨cap17, hb16⟩ := SlAt.base (own_slAt (M.chunk 3 rfl).inv) (by omega)
 obtain ⟨x18, hx18⟩ := elem_of_lt (xs := n.kids) (i := i) (by omega)
 have hgd1_ : n.kids.getD i hdZero = x18 := by rw [List.getD_eq_getElem?_getD, hx18]; rfl
 obtain ⟨x22, hx22⟩ := elem_of_lt (xs := n.kids) (i := i + 1) (by omega)
 have hgd2_ : n.kids.getD (i + 1) hdZero = x22 := by rw [List.getD_eq_getElem?_getD, hx22]; rfl
 refine W.drawn M [0, 1, 2, 3, 4, 5, 6, 7, 8, 9, 10, 11, 12, 13, 14, 15, 16, 17, 18] [6, 14, 17, 18] [15, 16] _ _ (sY (sY (sY (sY (sY (sY sE)))))) (fun _ h => h) Try.mixed (by kernel_rfl) ?_
 refine tP (vP tb) rfl (fun w => (Step.move rfl)) ?_
 refine tP (Value.pointer (some ⟨b13, 2, none⟩)) rfl (fun w => sP) ?_
 refine tR dv4 rfl (fun A w M => (Step.load1 Try.sc96 rfl ((M.cell 1 rfl 2).trans rfl))) ?_
 refine tP (vI ↑i) rfl (fun w => (Step.move rfl)) ?_
 refine tP (vQ dv4 i 2) rfl (fun w => (sX i Try.un96 Try.el92 rfl rfl hb16)) ?_
 refine tR (Value.agg #[(vI x18.at_), (vI x18.turn)]) rfl (fun A w M => (Step.loadEN (k := 0) (cs' := [(vI x18.at_), (vI x18.turn)]) Try.ag92 (flat_ec (own_slAt (M.chunk 4 rfl).inv) hx18 handleE_len) (by decide) rfl rfl rfl)) ?_
 obtain ⟨na_, hna_⟩ : ∃ n, (rget l x18).1 = n := ⟨_, rfl⟩
 let Q : List Chunk := [bk b13 #[(vB n.leaf), kv3, dv4, vv5] 99, oS kv3 n.keys, oH dv4 n.kids, oI vv5 n.vals, bk b1 #[(vI h.at_), (vI h.turn)] 92]
 refine TW.callX (ι := Value × Value × Value) (fun jx v_ => v_ = (Value.agg #[(vB na_.leaf), jx.1, jx.2.1, jx.2.2])) (fun jx => [oS jx.1 na_.keys, oH jx.2.1 na_.kids, oI jx.2.2 na_.vals, bk b13 #[(vB n.leaf), kv3, dv4, vv5] 99, arenaC 143 145 S ab l, oS kv3 n.keys, oH dv4 n.kids, oI vv5 n.vals, bk b1 #[(vI h.at_), (vI h.turn)] 92]) (fun jx => [bF tb #[(vP ab), (vI r.at_), (vI r.turn), (vB fu), (vI ln)] 94]) rfl (by decide) rfl (fun jx => (sN (sN (sN (sY (sY (sY (sY (sY (sY sE)))))))))) (fun jx r h => h) (fun A w M => have fq := M.frm [arenaC 143 145 S ab l] (fl A :: Q) [2, 0, 1, 3, 4, 5, 6] rfl; Rets.mono (tr_node tb ab r fu ln l S x18 (by assumption) na_ hna_ (M.eF fq ⟨(M.rF fq 0 rfl), trivial⟩)) (fun v_ w_ ⟨kv44, dv45, vv46, e_, m⟩ => ⟨(kv44, dv45, vv46), e_, (M.lF fq m).sel [4, 1, 2, 3, 5, 0, 6, 7, 8, 9] rfl (by decide), fun b hb => M.kF fq m b hb⟩)) (fun w => CallsF.func Try.en49 rfl) (fun jx v hp hin => ?_)
 obtain ⟨kv44, dv45, vv46⟩ := jx
 replace hp := hp.symm; subst hp
 obtain ⟨_, _, hin⟩ := hin
 have sl47 : IsSl kv44 := SlAt.isSl (own_slAt (Mem.chunk hin 1 rfl).inv)
 have hle48 := SlAt.le' (own_slAt (Mem.chunk hin 1 rfl).inv)
 have sl49 : IsSl dv45 := SlAt.isSl (own_slAt (Mem.chunk hin 2 rfl).inv)
 have hle50 := SlAt.le' (own_slAt (Mem.chunk hin 2 rfl).inv)
 have sl51 : IsSl vv46 := SlAt.isSl (own_slAt (Mem.chunk hin 3 rfl).inv)
 have hle52 := SlAt.le' (own_slAt (Mem.chunk hin 3 rfl).inv)
 clear hin
 refine tP (vP tb) rfl (fun w => (Step.move rfl)) ?_
 refine tP (Value.pointer (some ⟨b13, 2, none⟩)) rfl (fun w => sP) ?_
 refine tR dv4 rfl (fun A w M => (Step.load1 Try.sc96 rfl ((M.cell 1 rfl 2).trans rfl))) ?_
 refine tP (vI ↑i) rfl (fun w => (Step.move rfl)) ?_
 refine tP (vI (↑(i + 1))) rfl (fun w => (Step.cast (congrArg (Value.int .i64) (show (↑i + 1 : Int) = ↑(i + 1) by omega)) (Step.add rfl rfl (wrap_i64 (by omega))))) ?_
 refine tP (vQ dv4 (i + 1) 2) rfl (fun w => (sX (i + 1) Try.un96 Try.el92 rfl rfl hb16)) ?_
 refine tR (Value.agg #[(vI x22.at_), (vI x22.turn)]) rfl (fun A w M => (Step.loadEN (k := 0) (cs' := [(vI x22.at_), (vI x22.turn)]) Try.ag92 (flat_ec (own_slAt (M.chunk 4 rfl).inv) hx22 handleE_len) (by decide) rfl rfl rfl)) ?_
 obtain ⟨nb_, hnb_⟩ : ∃ n, (rget l x22).1 = n := ⟨_, rfl⟩
 have hP := pairOk_at hO hn hgd1_ hgd2_ hna_ hnb_
 obtain ⟨hta1, hta2, hta3⟩ := hP.a_
 obtain ⟨htb1, htb2, htb3⟩ := hP.b_
 have hal_ := hP.al
 have hbl_ := hP.bl
 have ha1_ := hP.a1
 have hb1_ := hP.b1
 have hlfb_ := hP.lf
 let Q : List Chunk := [oS kv44 na_.keys, oH dv45 na_.kids, oI vv46 na_.vals, bk b13 #[(vB n.leaf), kv3, dv4, vv5] 99, oS kv3 n.keys, oH dv4 n.kids, oI vv5 n.vals, bk b1 #[(vI h.at_), (vI h.turn)] 92]
 refine TW.callX (ι := Value × Value × Value) (fun jx v_ => v_ = (Value.agg #[(vB nb_.leaf), jx.1, jx.2.1, jx.2.2])) (fun jx => [oS jx.1 nb_.keys, oH jx.2.1 nb_.kids, oI jx.2.2 nb_.vals, oS kv44 na_.keys, oH dv45 na_.kids, oI vv46 na_.vals, bk b13 #[(vB n.leaf), kv3, dv4, vv5] 99, arenaC 143 145 S ab l, oS kv3 n.keys, oH dv4 n.kids, oI vv5 n.vals, bk b1 #[(vI h.at_), (vI h.turn)] 92]) (fun jx => [bF tb #[(vP ab), (vI r.at_), (vI r.turn), (vB fu), (vI ln)] 94]) rfl (by decide) rfl (fun jx => (sN (sN (sN (sN (sN (sN (sY (sY (sY (sY (sY (sY sE))))))))))))) (fun jx r h => h) (fun A w M => have fq := M.frm [arenaC 143 145 S ab l] (fl A :: Q) [5, 0, 1, 2, 3, 4, 6, 7, 8, 9] rfl; Rets.mono (tr_node tb ab r fu ln l S x22 (by assumption) nb_ hnb_ (M.eF fq ⟨(M.rF fq 0 rfl), trivial⟩)) (fun v_ w_ ⟨kv53, dv54, vv55, e_, m⟩ => ⟨(kv53, dv54, vv55), e_, (M.lF fq m).sel [4, 1, 2, 3, 5, 6, 7, 8, 0, 9, 10, 11, 12] rfl (by decide), fun b hb => M.kF fq m b hb⟩)) (fun w => CallsF.func Try.en49 rfl) (fun jx v hp hin => ?_)
 obtain ⟨kv53, dv54, vv55⟩ := jx
 replace hp := hp.symm; subst hp
 obtain ⟨_, _, hin⟩ := hin
 have sl56 : IsSl kv53 := SlAt.isSl (own_slAt (Mem.chunk hin 1 rfl).inv)
 have hle57 := SlAt.le' (own_slAt (Mem.chunk hin 1 rfl).inv)
 have sl58 : IsSl dv54 := SlAt.isSl (own_slAt (Mem.chunk hin 2 rfl).inv)
 have hle59 := SlAt.le' (own_slAt (Mem.chunk hin 2 rfl).inv)
 have sl60 : IsSl vv55 := SlAt.isSl (own_slAt (Mem.chunk hin 3 rfl).inv)
 have hle61 := SlAt.le' (own_slAt (Mem.chunk hin 3 rfl).inv)
 clear hin
 refine TW.new (obj := .cells #[(vB false), vZ, vZ, vZ] 99) (fun b => .pointer (some ⟨b, 0, none⟩)) rfl (by decide) (by decide) rfl (fun w => Step.alloc Try.el99.zero) (fun b62 => ?_)
 refine TW.new (obj := .cells #[(vB false), vZ, vZ, vZ] 99) (fun b => .pointer (some ⟨b, 0, none⟩)) rfl (by decide) (by decide) rfl (fun w => Step.alloc Try.el99.zero) (fun b63 => ?_)
 refine TW.store (v := (Value.agg #[(vB na_.leaf), kv44, dv45, vv46])) (cs := [(vB na_.leaf), kv44, dv45, vv46]) (c' := #[(vB na_.leaf), kv44, dv45, vv46]) 1 rfl rfl (by decide) rfl Try.el99.sized rfl rfl rfl rfl (Nat.le_of_ble_eq_true rfl) (cel_cons rfl (cel_cons (IsSl.cel sl47) (cel_cons (IsSl.cel sl49) (cel_cons (IsSl.cel sl51) cel_nil)))) rfl rfl (sN (sN (sN (sN (sN (sN (sN (sN (sY (sY (sY (sY (sY (sY sE)))))))))))))) (fun r h => h) ?_
 refine TW.store (v := (Value.agg #[(vB nb_.leaf), kv53, dv54, vv55])) (cs := [(vB nb_.leaf), kv53, dv54, vv55]) (c' := #[(vB nb_.leaf), kv53, dv54, vv55]) 0 rfl rfl (by decide) rfl Try.el99.sized rfl rfl rfl rfl (Nat.le_of_ble_eq_true rfl) (cel_cons rfl (cel_cons (IsSl.cel sl56) (cel_cons (IsSl.cel sl58) (cel_cons (IsSl.cel sl60) cel_nil)))) rfl rfl (sN (sN (sN (sN (sN (sN (sN (sN (sY (sY (sY (sY (sY (sY sE)))))))))))))) (fun r h => h) ?_
 refine TW.done (fun w64 M => ?_)
 refine W.seq' ?_
 have hsh65 := SlAt.shp (own_slAt (M.chunk 10 rfl).inv)
 have hsh65c := hsh65
 obtain ⟨_, _, hsh65l, hsh65m⟩ := hsh65c
 have hsh66 := SlAt.shp (own_slAt (M.chunk 12 rfl).inv)
 have hsh66c := hsh66
 obtain ⟨_, _, hsh66l, hsh66m⟩ := hsh66c
 refine W.drawn2 M [0, 1, 2, 3, 4, 5, 6, 7, 8, 9, 12, 13, 14, 15, 16, 17, 18, 19, 20, 21, 10, 11, 24, 22, 23] [25, 26, 27] [11, 23, 25, 27] [10, 22] _ _ (sY (sY (sY (sY (sY (sY (sY (sY (sY (sY (sY (sY (sY (sY sE)))))))))))))) (fun _ h => h) Try.mixed (by kernel_rfl) ?_
 refine tP (Value.pointer (some ⟨b62, 1, none⟩)) rfl (fun w => sP) ?_
 refine tR kv44 rfl (fun A w M => (Step.load1 Try.sc22 rfl ((M.cell 2 rfl 1).trans rfl))) ?_
 refine tP (Value.pointer (some ⟨b13, 1, none⟩)) rfl (fun w => sP) ?_
 refine tR kv3 rfl (fun A w M => (Step.load1 Try.sc22 rfl ((M.cell 9 rfl 1).trans rfl))) ?_
 refine tP (vI ↑i) rfl (fun w => (Step.move rfl)) ?_
 refine tP (vI ↑i) rfl (fun w => (Step.move rfl)) ?_
 refine tP (vI (↑(i + 1))) rfl (fun w => (Step.cast (congrArg (Value.int .i64) (show (↑i + 1 : Int) = ↑(i + 1) by omega)) (Step.add rfl rfl (wrap_i64 (by omega))))) ?_
 refine tP (vSlice 1 i (i + 1) (vCap kv3) kv3) rfl (fun w => (Step.sliceLHP (l := i) (h := i + 1) Try.un22 Try.el9.sized rfl rfl (by omega) rfl (by omega) hsh65 (by omega) (by obtain ⟨_, _, _, _⟩ := hsh65; omega))) ?_
 refine tP (Value.pointer (some ⟨b63, 1, none⟩)) rfl (fun w => sP) ?_
 refine tR kv53 rfl (fun A w M => (Step.load1 Try.sc22 rfl ((M.cell 1 rfl 1).trans rfl))) ?_
 refine tP (Value.pointer (some ⟨b62, 3, none⟩)) rfl (fun w => sP) ?_
 refine tR vv46 rfl (fun A w M => (Step.load1 Try.sc97 rfl ((M.cell 2 rfl 3).trans rfl))) ?_
 refine tP (Value.pointer (some ⟨b13, 3, none⟩)) rfl (fun w => sP) ?_
 refine tR vv5 rfl (fun A w M => (Step.load1 Try.sc97 rfl ((M.cell 9 rfl 3).trans rfl))) ?_
 refine tP (vI ↑i) rfl (fun w => (Step.move rfl)) ?_
 refine tP (vI ↑i) rfl (fun w => (Step.move rfl)) ?_
 refine tP (vI (↑(i + 1))) rfl (fun w => (Step.cast (congrArg (Value.int .i64) (show (↑i + 1 : Int) = ↑(i + 1) by omega)) (Step.add rfl rfl (wrap_i64 (by omega))))) ?_
 refine tP (vSlice 1 i (i + 1) (vCap vv5) vv5) rfl (fun w => (Step.sliceLHP (l := i) (h := i + 1) Try.un97 Try.el3.sized rfl rfl (by omega) rfl (by omega) hsh66 (by omega) (by obtain ⟨_, _, _, _⟩ := hsh66; omega))) ?_
 refine tP (Value.pointer (some ⟨b63, 3, none⟩)) rfl (fun w => sP) ?_
 refine tR vv55 rfl (fun A w M => (Step.load1 Try.sc97 rfl ((M.cell 1 rfl 3).trans rfl))) ?_
 refine TW.new (obj := .cells #[kv44, (vSlice 1 i (i + 1) (vCap kv3) kv3), kv53] 22) (fun b => .slice (some ⟨b, 0, none⟩) 3 3) rfl (by decide) (by decide) rfl (fun w => (by obtain ⟨_, _, _, e⟩ := sl47; subst e; obtain ⟨_, _, _, e⟩ := (vSlice_sl (Shp.isSl hsh65)); rw [e]; obtain ⟨_, _, _, e⟩ := sl56; subst e; exact Step.make (by kernel_rfl))) (fun b95 => ?_)
 let Q : List Chunk := [bk b95 #[kv44, (vSlice 1 i (i + 1) (vCap kv3) kv3), kv53] 22, bk b63 #[(vB nb_.leaf), kv53, dv54, vv55] 99, bk b62 #[(vB na_.leaf), kv44, dv45, vv46] 99, oS kv53 nb_.keys, oH dv54 nb_.kids, oI vv55 nb_.vals, oS kv44 na_.keys, oH dv45 na_.kids, oI vv46 na_.vals, bk b13 #[(vB n.leaf), kv3, dv4, vv5] 99, arenaC 143 145 S ab l, oS kv3 n.keys, oH dv4 n.kids, oI vv5 n.vals, bk b1 #[(vI h.at_), (vI h.turn)] 92]
 refine TW.callX (ι := Value) (fun jx v_ => v_ = jx) (fun jx => oS jx (([na_.keys, (n.keys.drop i).take ((i + 1) - i), nb_.keys] : List (List ByteArray)).flatten) :: Q) (fun jx => [bF tb #[(vP ab), (vI r.at_), (vI r.turn), (vB fu), (vI ln)] 94]) rfl (by decide) rfl (fun jx => (sN (sN (sY (sY (sY (sY (sY (sY (sY (sY (sY (sY (sY (sY (sY (sY sE))))))))))))))))) (fun jx r h => h) (fun A w M => Rets.mono (concat_str (Value.slice (some ⟨b95, 0, none⟩) 3 3) ([na_.keys, (n.keys.drop i).take ((i + 1) - i), nb_.keys] : List (List ByteArray)) (by simp [sumL]; omega) (by simp) (M.enterW0 ⟨((((M.wideC0 1 rfl)).and (((M.wideC0 7 rfl).imp fun _ h => own_slAt h).and (((((M.wideC0 12 rfl).imp fun _ h => own_slAt h)).imp fun _ h => slat_sliceF strE_len (l := i) (h := i + 1) h (by omega) (by omega) (Nat.le_trans (by omega) (SlAt.cap h).1) (Nat.le_refl _)).and ((M.wideC0 4 rfl).imp fun _ h => own_slAt h)))).imp fun _ ⟨hb_, hq0_, hq1_, hq2_⟩ => repS_blk (SlsT 1 strE) (cs := [kv44, (vSlice 1 i (i + 1) (vCap kv3) kv3), kv53]) (xs := [na_.keys, (n.keys.drop i).take ((i + 1) - i), nb_.keys]) hb_ rfl (by decide) (repL_snoc (T := (SlsT 1 strE)) (new := [kv53]) (x := nb_.keys) (repL_snoc (T := (SlsT 1 strE)) (new := [(vSlice 1 i (i + 1) (vCap kv3) kv3)]) (x := (n.keys.drop i).take ((i + 1) - i)) (repL_snoc (T := (SlsT 1 strE)) (new := [kv44]) (x := na_.keys) repL_nil (⟨_, rfl, hq0_⟩ : slRep 1 strE _ _ _)) (⟨_, rfl, hq1_⟩ : slRep 1 strE _ _ _)) (⟨_, rfl, hq2_⟩ : slRep 1 strE _ _ _))), trivial⟩)) (fun v_ w_ ⟨v96, e_, m⟩ => ⟨v96, e_, (M.leaveW0 m).sel [1, 0, 2, 3, 4, 5, 6, 7, 8, 9, 10, 11, 12, 13, 14, 15, 16] rfl (by decide), fun b hb => M.k0F m b hb⟩)) (fun w => CallsF.func Try.en127 rfl) (fun v96 v hp hin => ?_)
 replace hp := hp.symm; subst hp
 obtain ⟨_, _, hin⟩ := hin
 have sl97 : IsSl v96 := SlAt.isSl (own_slAt (Mem.chunk hin 1 rfl).inv)
 have hle98 := SlAt.le' (own_slAt (Mem.chunk hin 1 rfl).inv)
 clear hin
 refine tP (Value.pointer (some ⟨b62, 1, none⟩)) rfl (fun w => sP) ?_
 refine TW.new (obj := .cells #[vv46, (vSlice 1 i (i + 1) (vCap vv5) vv5), vv55] 97) (fun b => .slice (some ⟨b, 0, none⟩) 3 3) rfl (by decide) (by decide) rfl (fun w => (by obtain ⟨_, _, _, e⟩ := sl51; subst e; obtain ⟨_, _, _, e⟩ := (vSlice_sl (Shp.isSl hsh66)); rw [e]; obtain ⟨_, _, _, e⟩ := sl60; subst e; exact Step.make (by kernel_rfl))) (fun b99 => ?_)
 let Q : List Chunk := [bk b99 #[vv46, (vSlice 1 i (i + 1) (vCap vv5) vv5), vv55] 97, oS v96 (([na_.keys, (n.keys.drop i).take ((i + 1) - i), nb_.keys] : List (List ByteArray)).flatten), bk b95 #[kv44, (vSlice 1 i (i + 1) (vCap kv3) kv3), kv53] 22, bk b63 #[(vB nb_.leaf), kv53, dv54, vv55] 99, bk b62 #[(vB na_.leaf), kv44, dv45, vv46] 99, oS kv53 nb_.keys, oH dv54 nb_.kids, oI vv55 nb_.vals, oS kv44 na_.keys, oH dv45 na_.kids, oI vv46 na_.vals, bk b13 #[(vB n.leaf), kv3, dv4, vv5] 99, arenaC 143 145 S ab l, oS kv3 n.keys, oH dv4 n.kids, oI vv5 n.vals, bk b1 #[(vI h.at_), (vI h.turn)] 92]
 refine TW.callX (ι := Value) (fun jx v_ => v_ = jx) (fun jx => oI jx (([na_.vals, (n.vals.drop i).take ((i + 1) - i), nb_.vals] : List (List Int)).flatten) :: Q) (fun jx => [bF tb #[(vP ab), (vI r.at_), (vI r.turn), (vB fu), (vI ln)] 94]) rfl (by decide) rfl (fun jx => (sN (sN (sN (sN (sY (sY (sY (sY (sY (sY (sY (sY (sY (sY (sY (sY (sY (sY sE))))))))))))))))))) (fun jx r h => h) (fun A w M => Rets.mono (concat_int (Value.slice (some ⟨b99, 0, none⟩) 3 3) ([na_.vals, (n.vals.drop i).take ((i + 1) - i), nb_.vals] : List (List Int)) (by simp [sumL]; omega) (by simp) (M.enterW0 ⟨((((M.wideC0 1 rfl)).and (((M.wideC0 11 rfl).imp fun _ h => own_slAt h).and (((((M.wideC0 16 rfl).imp fun _ h => own_slAt h)).imp fun _ h => slat_sliceF intE_len (l := i) (h := i + 1) h (by omega) (by omega) (Nat.le_trans (by omega) (SlAt.cap h).1) (Nat.le_refl _)).and ((M.wideC0 8 rfl).imp fun _ h => own_slAt h)))).imp fun _ ⟨hb_, hq0_, hq1_, hq2_⟩ => repS_blk (SlsT 1 intE) (cs := [vv46, (vSlice 1 i (i + 1) (vCap vv5) vv5), vv55]) (xs := [na_.vals, (n.vals.drop i).take ((i + 1) - i), nb_.vals]) hb_ rfl (by decide) (repL_snoc (T := (SlsT 1 intE)) (new := [vv55]) (x := nb_.vals) (repL_snoc (T := (SlsT 1 intE)) (new := [(vSlice 1 i (i + 1) (vCap vv5) vv5)]) (x := (n.vals.drop i).take ((i + 1) - i)) (repL_snoc (T := (SlsT 1 intE)) (new := [vv46]) (x := na_.vals) repL_nil (⟨_, rfl, hq0_⟩ : slRep 1 intE _ _ _)) (⟨_, rfl, hq1_⟩ : slRep 1 intE _ _ _)) (⟨_, rfl, hq2_⟩ : slRep 1 intE _ _ _))), trivial⟩)) (fun v_ w_ ⟨v100, e_, m⟩ => ⟨v100, e_, (M.leaveW0 m).sel [1, 0, 2, 3, 4, 5, 6, 7, 8, 9, 10, 11, 12, 13, 14, 15, 16, 17, 18] rfl (by decide), fun b hb => M.k0F m b hb⟩)) (fun w => CallsF.func Try.en128 rfl) (fun v100 v hp hin => ?_)
 replace hp := hp.symm; subst hp
 obtain ⟨_, _, hin⟩ := hin
 have sl101 : IsSl v100 := SlAt.isSl (own_slAt (Mem.chunk hin 1 rfl).inv)
 have hle102 := SlAt.le' (own_slAt (Mem.chunk hin 1 rfl).inv)
 clear hin
 refine TW.turn _ _ (sY (sY (sY (sY (sY (sN (sY (sY (sY (sY (sY (sY (sY (sY (sY (sY (sY (sY sE)))))))))))))))))) (fun _ h => h) ?_
 refine TW.store (v := v96) (cs := [v96]) (c' := #[(vB na_.leaf), v96, dv45, vv46]) 5 rfl rfl (by decide) rfl Try.el22.sized rfl rfl (IsSl.list sl97) rfl (Nat.le_of_ble_eq_true rfl) (cel_cons (IsSl.cel sl97) cel_nil) rfl rfl (sY (sY (sY (sY (sY (sN (sY (sY (sY (sY (sY (sY (sY (sY (sY (sY (sY (sY sE)))))))))))))))))) (fun r h => h) ?_
 refine tP (Value.pointer (some ⟨b62, 3, none⟩)) rfl (fun w => sP) ?_
 refine TW.store (v := v100) (cs := [v100]) (c' := #[(vB na_.leaf), v96, dv45, v100]) 5 rfl rfl (by decide) rfl Try.el97.sized rfl rfl (IsSl.list sl101) rfl (Nat.le_of_ble_eq_true rfl) (cel_cons (IsSl.cel sl101) cel_nil) rfl rfl (sY (sY (sY (sY (sY (sN (sY (sY (sY (sY (sY (sY (sY (sY (sY (sY (sY (sY sE)))))))))))))))))) (fun r h => h) ?_
 refine TW.done (fun w105 M => ?_)
 refine W.seq' ?_
 replace M := M.loseI 11
 replace M := M.loseI 9
 replace M := M.loseI 3
 replace M := M.loseI 1
 have hcat_keys : ([na_.keys, (n.keys.drop i).take ((i + 1) - i), nb_.keys] : List (List ByteArray)).flatten = na_.keys ++ ((n.keys.drop i).take 1 ++ nb_.keys) := by simp [Nat.add_sub_cancel_left]
 replace M := M.rechunk 1 (c' := oS v96 (na_.keys ++ ((n.keys.drop i).take 1 ++ nb_.keys))) rfl (by rw [hcat_keys])
 have hcl_keys : (na_.keys ++ ((n.keys.drop i).take 1 ++ nb_.keys)).length = na_.keys.length + (1 + nb_.keys.length) := by simp; try omega
 have hcat_vals : ([na_.vals, (n.vals.drop i).take ((i + 1) - i), nb_.vals] : List (List Int)).flatten = na_.vals ++ ((n.vals.drop i).take 1 ++ nb_.vals) := by simp [Nat.add_sub_cancel_left]
 replace M := M.rechunk 0 (c' := oI v100 (na_.vals ++ ((n.vals.drop i).take 1 ++ nb_.vals))) rfl (by rw [hcat_vals])
 have hcl_vals : (na_.vals ++ ((n.vals.drop i).take 1 ++ nb_.vals)).length = na_.vals.length + (1 + nb_.vals.length) := by simp; try omega
 refine W.region rfl (wP (Value.pointer (some ⟨b62, 2, none⟩)) (wS dv45 rfl (Step.load1 Try.sc96 rfl ((M.cell 3 rfl 2).trans rfl)) (wP (Value.pointer (some ⟨b63, 2, none⟩)) (wS dv54 rfl (Step.load1 Try.sc96 rfl ((M.cell 2 rfl 2).trans rfl)) ?_))))
 refine WL.new (obj := .cells #[dv45, dv54] 96) (fun b => .slice (some ⟨b, 0, none⟩) 2 2) M rfl (fun w => (by obtain ⟨_, _, _, e⟩ := sl49; subst e; obtain ⟨_, _, _, e⟩ := sl58; subst e; exact Step.make (by kernel_rfl))) (fun b106 w107 hb106 M => ?_)
 refine WL.callX rfl (concat_hdl (Value.slice (some ⟨b106, 0, none⟩) 2 2) ([na_.kids, nb_.kids] : List (List Handle)) (by simp [sumL]; omega) (by simp) (M.enterW0 ⟨((((M.wideC0 0 rfl)).and (((M.wideC0 8 rfl).imp fun _ h => own_slAt h).and ((M.wideC0 6 rfl).imp fun _ h => own_slAt h))).imp fun _ ⟨hb_, hq0_, hq1_⟩ => repS_blk (SlsT 2 handleE) (cs := [dv45, dv54]) (xs := [na_.kids, nb_.kids]) hb_ rfl (by decide) (repL_snoc (T := (SlsT 2 handleE)) (new := [dv54]) (x := nb_.kids) (repL_snoc (T := (SlsT 2 handleE)) (new := [dv45]) (x := na_.kids) repL_nil (⟨_, rfl, hq0_⟩ : slRep 2 handleE _ _ _)) (⟨_, rfl, hq1_⟩ : slRep 2 handleE _ _ _))), trivial⟩)) (CallsF.func Try.en129 rfl) ?_
 rintro v108 w109 ⟨_, rfl, m⟩
 replace M := M.leaveW0 m
 clear m
 have sl110 : IsSl v108 := SlAt.isSl (own_slAt (Mem.chunk M 0 rfl).inv)
 have hle111 := SlAt.le' (own_slAt (Mem.chunk M 0 rfl).inv)
 refine wP (Value.pointer (some ⟨b62, 2, none⟩)) ?_
 refine WL.store (v := v108) (cs := [v108]) (c' := #[(vB na_.leaf), v96, v108, v100]) M 5 rfl rfl Try.el96.sized rfl rfl (IsSl.list sl110) rfl (Nat.le_of_ble_eq_true rfl) (cel_cons (IsSl.cel sl110) cel_nil) rfl rfl (fun w112 M => ?_)
 refine WL.nil (W.seq' ?_)
 replace M := M.loseI 9
 replace M := M.loseI 8
 replace M := M.loseI 7
 replace M := M.loseI 6
 replace M := M.loseI 4
 replace M := M.loseI 1
 have hcat_kids : ([na_.kids, nb_.kids] : List (List Handle)).flatten = na_.kids ++ nb_.kids := by simp [Nat.add_sub_cancel_left]
 replace M := M.rechunk 0 (c' := oH v108 (na_.kids ++ nb_.kids)) rfl (by rw [hcat_kids])
 have hcl_kids : (na_.kids ++ nb_.kids).length = na_.kids.length + nb_.kids.length := by simp; try omega
 refine W.drawn M [0, 1, 2, 3, 4, 5, 6, 7] [7] [] _ _ (sY (sY (sY (sY (sY (sN (sY (sY (sY (sY sE)))))))))) (fun _ h => h) Try.mixed (by kernel_rfl) ?_
 refine tP (vP tb) rfl (fun w => (Step.move rfl)) ?_
 refine tP (Value.pointer (some ⟨b13, 2, none⟩)) rfl (fun w => sP) ?_
 refine tR dv4 rfl (fun A w M => (Step.load1 Try.sc96 rfl ((M.cell 5 rfl 2).trans rfl))) ?_
 refine tP (vI ↑i) rfl (fun w => (Step.move rfl)) ?_
 refine tP (vQ dv4 i 2) rfl (fun w => (sX i Try.un96 Try.el92 rfl rfl hb16)) ?_
 refine tR (Value.agg #[(vI x18.at_), (vI x18.turn)]) rfl (fun A w M => (Step.loadEN (k := 0) (cs' := [(vI x18.at_), (vI x18.turn)]) Try.ag92 (flat_ec (own_slAt (M.chunk 7 rfl).inv) hx18 handleE_len) (by decide) rfl rfl rfl)) ?_
 refine tR (Value.agg #[(vB na_.leaf), v96, v108, v100]) rfl (fun A w M => (Step.loadN Try.ag99 rfl (M.blk 4 rfl) (Nat.le_of_ble_eq_true rfl) rfl)) ?_
 let Q : List Chunk := [oH v108 (na_.kids ++ nb_.kids), oI v100 (na_.vals ++ ((n.vals.drop i).take 1 ++ nb_.vals)), oS v96 (na_.keys ++ ((n.keys.drop i).take 1 ++ nb_.keys)), bk b62 #[(vB na_.leaf), v96, v108, v100] 99, bk b13 #[(vB n.leaf), kv3, dv4, vv5] 99, oS kv3 n.keys, oH dv4 n.kids, oI vv5 n.vals, bk b1 #[(vI h.at_), (vI h.turn)] 92]
 refine TW.callX (ι := (Nat → Prop)) (fun jx v_ => v_ = undef) (fun jx => arenaC 143 145 jx ab ((rput l x18 (⟨na_.leaf, na_.keys ++ ((n.keys.drop i).take 1 ++ nb_.keys), na_.kids ++ nb_.kids, na_.vals ++ ((n.vals.drop i).take 1 ++ nb_.vals)⟩ : Nd)).1) :: Q) (fun jx => [bF tb #[(vP ab), (vI r.at_), (vI r.turn), (vB fu), (vI ln)] 94]) rfl (by decide) rfl (fun jx => (sN (sY (sY (sY (sY (sY (sY (sY (sY (sY sE))))))))))) (fun jx r h => h) (fun A w M => have fq := M.frm [arenaC 143 145 S ab l] (fl A :: Q) [6, 0, 1, 2, 3, 4, 5, 7, 8, 9, 10] rfl; Rets.mono (tr_put tb ab r fu ln l S x18 v96 v108 v100 (⟨na_.leaf, na_.keys ++ ((n.keys.drop i).take 1 ++ nb_.keys), na_.kids ++ nb_.kids, na_.vals ++ ((n.vals.drop i).take 1 ++ nb_.vals)⟩ : Nd) (by assumption) (by simp [insL] <;> omega) (by simp [insL] <;> omega) (by simp [insL] <;> omega) (M.eF fq ⟨(M.rF fq 0 rfl), ((M.cF fq 3 rfl).imp fun _ h => own_slAt h), ((M.cF fq 1 rfl).imp fun _ h => own_slAt h), ((M.cF fq 2 rfl).imp fun _ h => own_slAt h), trivial⟩)) (fun v_ w_ ⟨S115, e_, m⟩ => ⟨S115, e_, (M.lF fq m).sel [1, 0, 2, 3, 4, 5, 6, 7, 8, 9, 10] rfl (by decide), fun b hb => M.kF fq m b hb⟩)) (fun w => CallsF.func Try.en84 rfl) (fun S115 v hp hin => ?_)
 replace hp := hp.symm; subst hp
 obtain ⟨_, _, hin⟩ := hin
 clear hin
 refine TW.done (fun w116 M => ?_)
 refine W.seq' ?_
 replace M := M.loseI 4
 replace M := M.loseI 3
 replace M := M.loseI 2
 replace M := M.loseI 1
 obtain ⟨l1_, hl1_⟩ : ∃ q, ((rput l x18 (⟨na_.leaf, na_.keys ++ ((n.keys.drop i).take 1 ++ nb_.keys), na_.kids ++ nb_.kids, na_.vals ++ ((n.vals.drop i).take 1 ++ nb_.vals)⟩ : Nd)).1) = q := ⟨_, rfl⟩
 have hAl1_ : SmallA l1_ := by rw [← hl1_]; first | exact SmallA.put (by assumption) (by first | omega | (simp [insL] <;> omega)) (by first | omega | (simp [insL] <;> omega)) (by first | omega | (simp [insL] <;> omega)) | exact SmallA.free (by assumption)
 replace M := M.rechunk 0 (c' := arenaC 143 145 S115 ab l1_) rfl (by rw [hl1_])
 refine W.drawn M [0, 1, 2, 3, 4, 5, 6, 7, 8, 9, 10, 11] [11] [10] _ _ (sN (sY (sY (sY (sY (sY sE)))))) (fun _ h => h) Try.mixed (by kernel_rfl) ?_
 refine tP (vP tb) rfl (fun w => (Step.move rfl)) ?_
 refine tP (vP tb) rfl (fun w => sP) ?_
 refine tP (vP tb) rfl (fun w => sP) ?_
 refine tR (vP ab) rfl (fun A w M => (Step.load1 Try.sc90 rfl ((cell_blk (M.rep 0 rfl) 0).trans rfl))) ?_
 refine tP (Value.pointer (some ⟨b13, 2, none⟩)) rfl (fun w => sP) ?_
 refine tR dv4 rfl (fun A w M => (Step.load1 Try.sc96 rfl ((M.cell 1 rfl 2).trans rfl))) ?_
 refine tP (vI ↑i) rfl (fun w => (Step.move rfl)) ?_
 refine tP (vI (↑(i + 1))) rfl (fun w => (Step.cast (congrArg (Value.int .i64) (show (↑i + 1 : Int) = ↑(i + 1) by omega)) (Step.add rfl rfl (wrap_i64 (by omega))))) ?_
 refine tP (vQ dv4 (i + 1) 2) rfl (fun w => (sX (i + 1) Try.un96 Try.el92 rfl rfl hb16)) ?_
 refine tR (Value.agg #[(vI x22.at_), (vI x22.turn)]) rfl (fun A w M => (Step.loadEN (k := 0) (cs' := [(vI x22.at_), (vI x22.turn)]) Try.ag92 (flat_ec (own_slAt (M.chunk 3 rfl).inv) hx22 handleE_len) (by decide) rfl rfl rfl)) ?_
 refine TW.new (obj := .cells #[(vI x22.at_), (vI x22.turn)] 92) (fun b => .slice (some ⟨b, 0, none⟩) 1 1) rfl (by decide) (by decide) rfl (fun w => Step.make (by kernel_rfl)) (fun b123 => ?_)
 let Q : List Chunk := [bk b123 #[(vI x22.at_), (vI x22.turn)] 92, bk b13 #[(vB n.leaf), kv3, dv4, vv5] 99, oS kv3 n.keys, oH dv4 n.kids, oI vv5 n.vals, bk b1 #[(vI h.at_), (vI h.turn)] 92]
 refine TW.callX (ι := (Nat → Prop)) (fun jx v_ => v_ = (vI ((rfree l1_ ([x22] : List Handle)).2))) (fun jx => arenaC 143 145 jx ab ((rfree l1_ ([x22] : List Handle)).1) :: Q) (fun jx => [bF tb #[(vP ab), (vI r.at_), (vI r.turn), (vB fu), (vI ln)] 94]) rfl (by decide) rfl (fun jx => (sN (sN (sY (sY (sY (sY (sY sE)))))))) (fun jx r h => h) (fun A w M => have fq := M.frm [arenaC 143 145 S115 ab l1_] (fl A :: Q) [2, 0, 1, 3, 4, 5, 6, 7] rfl; Rets.mono (ar_free ab l1_ S115 (Value.slice (some ⟨b123, 0, none⟩) 1 1) ([x22] : List Handle) (by assumption) (M.eF fq ⟨((M.cF fq 1 rfl).imp fun _ h => SlAt.of_blk (n := 1) (size := 2) h rfl (by decide)), trivial⟩)) (fun v_ w_ ⟨S124, e_, m⟩ => ⟨S124, e_, (M.lF fq m).sel [1, 0, 2, 3, 4, 5, 6, 7] rfl (by decide), fun b hb => M.kF fq m b hb⟩)) (fun w => CallsF.func Try.en50 rfl) (fun S124 v hp hin => ?_)
 replace hp := hp.symm; subst hp
 obtain ⟨_, _, hin⟩ := hin
 clear hin
 refine TW.done (fun w125 M => ?_)
 refine W.seq' ?_
 replace M := M.loseI 1
 obtain ⟨l2_, hl2_⟩ : ∃ q, ((rfree l1_ ([x22] : List Handle)).1) = q := ⟨_, rfl⟩
 have hAl2_ : SmallA l2_ := by rw [← hl2_]; first | exact SmallA.put (by assumption) (by first | omega | (simp [insL] <;> omega)) (by first | omega | (simp [insL] <;> omega)) (by first | omega | (simp [insL] <;> omega)) | exact SmallA.free (by assumption)
 replace M := M.rechunk 0 (c' := arenaC 143 145 S124 ab l2_) rfl (by rw [hl2_])
 refine W.drawn2 M [0, 1, 2, 3, 4, 5, 6, 7, 8, 9, 10, 11, 12, 13, 14, 15, 16, 17, 18, 19] [20, 21, 22, 23, 24] [5, 11, 18, 20, 22, 24] [] _ _ (sY (sY (sN (sN (sN (sY sE)))))) (fun _ h => h) Try.mixed (by kernel_rfl) ?_
 refine tP (Value.pointer (some ⟨b13, 1, none⟩)) rfl (fun w => sP) ?_
 refine tR kv3 rfl (fun A w M => (Step.load1 Try.sc22 rfl ((M.cell 2 rfl 1).trans rfl))) ?_
 refine tP (vI ↑i) rfl (fun w => (Step.move rfl)) ?_
 refine tP (vI ↑i) rfl (fun w => (Step.move rfl)) ?_
 refine tP (vI (↑(i + 1))) rfl (fun w => (Step.cast (congrArg (Value.int .i64) (show (↑i + 1 : Int) = ↑(i + 1) by omega)) (Step.add rfl rfl (wrap_i64 (by omega))))) ?_
 let Q : List Chunk := [arenaC 143 145 S124 ab l2_, bk b13 #[(vB n.leaf), kv3, dv4, vv5] 99, oH dv4 n.kids, oI vv5 n.vals, bk b1 #[(vI h.at_), (vI h.turn)] 92]
 refine TW.callX (ι := Value) (fun jx v_ => v_ = jx) (fun jx => oS jx (n.keys.take (Int.toNat ↑i) ++ n.keys.drop (Int.toNat (↑(i + 1)))) :: Q) (fun jx => [bF tb #[(vP ab), (vI r.at_), (vI r.turn), (vB fu), (vI ln)] 94]) rfl (by decide) rfl (fun jx => (sN (sY (sY (sN (sN (sY sE))))))) (fun jx r h => h) (fun A w M => have fq := M.frm [oS kv3 n.keys] (fl A :: Q) [3, 0, 1, 2, 4, 5, 6] rfl; Rets.mono (delete_str kv3 n.keys ↑i (↑(i + 1)) (by omega) (M.eF fq trivial)) (fun v_ w_ ⟨v144, e_, m⟩ => ⟨v144, e_, (M.lF fq m).sel [1, 0, 2, 3, 4, 5, 6] rfl (by decide), fun b hb => M.kF fq m b hb⟩)) (fun w => CallsF.func Try.en89 rfl) (fun v144 v hp hin => ?_)
 replace hp := hp.symm; subst hp
 obtain ⟨_, _, hin⟩ := hin
 have sl145 : IsSl v144 := SlAt.isSl (own_slAt (Mem.chunk hin 1 rfl).inv)
 have hle146 := SlAt.le' (own_slAt (Mem.chunk hin 1 rfl).inv)
 clear hin
 refine tP (Value.pointer (some ⟨b13, 3, none⟩)) rfl (fun w => sP) ?_
 refine tR vv5 rfl (fun A w M => (Step.load1 Try.sc97 rfl ((M.cell 2 rfl 3).trans rfl))) ?_
 refine tP (vI ↑i) rfl (fun w => (Step.move rfl)) ?_
 refine tP (vI ↑i) rfl (fun w => (Step.move rfl)) ?_
 refine tP (vI (↑(i + 1))) rfl (fun w => (Step.cast (congrArg (Value.int .i64) (show (↑i + 1 : Int) = ↑(i + 1) by omega)) (Step.add rfl rfl (wrap_i64 (by omega))))) ?_
 let Q : List Chunk := [oS v144 (n.keys.take (Int.toNat ↑i) ++ n.keys.drop (Int.toNat (↑(i + 1)))), arenaC 143 145 S124 ab l2_, bk b13 #[(vB n.leaf), kv3, dv4, vv5] 99, oH dv4 n.kids, bk b1 #[(vI h.at_), (vI h.turn)] 92]
 refine TW.callX (ι := Value) (fun jx v_ => v_ = jx) (fun jx => oI jx (n.vals.take (Int.toNat ↑i) ++ n.vals.drop (Int.toNat (↑(i + 1)))) :: Q) (fun jx => [bF tb #[(vP ab), (vI r.at_), (vI r.turn), (vB fu), (vI ln)] 94]) rfl (by decide) rfl (fun jx => (sN (sN (sY (sY (sN (sY sE))))))) (fun jx r h => h) (fun A w M => have fq := M.frm [oI vv5 n.vals] (fl A :: Q) [5, 0, 1, 2, 3, 4, 6] rfl; Rets.mono (delete_int vv5 n.vals ↑i (↑(i + 1)) (by omega) (M.eF fq trivial)) (fun v_ w_ ⟨v147, e_, m⟩ => ⟨v147, e_, (M.lF fq m).sel [1, 0, 2, 3, 4, 5, 6] rfl (by decide), fun b hb => M.kF fq m b hb⟩)) (fun w => CallsF.func Try.en90 rfl) (fun v147 v hp hin => ?_)
 replace hp := hp.symm; subst hp
 obtain ⟨_, _, hin⟩ := hin
 have sl148 : IsSl v147 := SlAt.isSl (own_slAt (Mem.chunk hin 1 rfl).inv)
 have hle149 := SlAt.le' (own_slAt (Mem.chunk hin 1 rfl).inv)
 clear hin
 refine tP (Value.pointer (some ⟨b13, 2, none⟩)) rfl (fun w => sP) ?_
 refine tR dv4 rfl (fun A w M => (Step.load1 Try.sc96 rfl ((M.cell 2 rfl 2).trans rfl))) ?_
 refine tP (vI ↑i) rfl (fun w => (Step.move rfl)) ?_
 refine tP (vI (↑(i + 1))) rfl (fun w => (Step.cast (congrArg (Value.int .i64) (show (↑i + 1 : Int) = ↑(i + 1) by omega)) (Step.add rfl rfl (wrap_i64 (by omega))))) ?_
 refine tP (vI ↑i) rfl (fun w => (Step.move rfl)) ?_
 refine tP (vI (↑(i + 2))) rfl (fun w => (Step.cast (congrArg (Value.int .i64) (show (↑i + 2 : Int) = ↑(i + 2) by omega)) (Step.add rfl rfl (wrap_i64 (by omega))))) ?_
 let Q : List Chunk := [oI v147 (n.vals.take (Int.toNat ↑i) ++ n.vals.drop (Int.toNat (↑(i + 1)))), oS v144 (n.keys.take (Int.toNat ↑i) ++ n.keys.drop (Int.toNat (↑(i + 1)))), arenaC 143 145 S124 ab l2_, bk b13 #[(vB n.leaf), kv3, dv4, vv5] 99, bk b1 #[(vI h.at_), (vI h.turn)] 92]
 refine TW.callX (ι := Value) (fun jx v_ => v_ = jx) (fun jx => oH jx (n.kids.take (Int.toNat (↑(i + 1))) ++ n.kids.drop (Int.toNat (↑(i + 2)))) :: Q) (fun jx => [bF tb #[(vP ab), (vI r.at_), (vI r.turn), (vB fu), (vI ln)] 94]) rfl (by decide) rfl (fun jx => (sN (sN (sN (sY (sY (sY sE))))))) (fun jx r h => h) (fun A w M => have fq := M.frm [oH dv4 n.kids] (fl A :: Q) [5, 0, 1, 2, 3, 4, 6] rfl; Rets.mono (delete_hdl dv4 n.kids (↑(i + 1)) (↑(i + 2)) (by omega) (M.eF fq trivial)) (fun v_ w_ ⟨v150, e_, m⟩ => ⟨v150, e_, (M.lF fq m).sel [1, 0, 2, 3, 4, 5, 6] rfl (by decide), fun b hb => M.kF fq m b hb⟩)) (fun w => CallsF.func Try.en130 rfl) (fun v150 v hp hin => ?_)
 replace hp := hp.symm; subst hp
 obtain ⟨_, _, hin⟩ := hin
 have sl151 : IsSl v150 := SlAt.isSl (own_slAt (Mem.chunk hin 1 rfl).inv)
 have hle152 := SlAt.le' (own_slAt (Mem.chunk hin 1 rfl).inv)
 clear hin
 refine tP (Value.pointer (some ⟨b13, 1, none⟩)) rfl (fun w => sP) ?_
 refine TW.turn _ _ (sY (sY (sY (sY (sN (sY sE)))))) (fun _ h => h) ?_
 refine TW.store (v := v144) (cs := [v144]) (c' := #[(vB n.leaf), v144, dv4, vv5]) 4 rfl rfl (by decide) rfl Try.el22.sized rfl rfl (IsSl.list sl145) rfl (Nat.le_of_ble_eq_true rfl) (cel_cons (IsSl.cel sl145) cel_nil) rfl rfl (sY (sY (sY (sY (sN (sY sE)))))) (fun r h => h) ?_
 refine tP (Value.pointer (some ⟨b13, 3, none⟩)) rfl (fun w => sP) ?_
 refine TW.store (v := v147) (cs := [v147]) (c' := #[(vB n.leaf), v144, dv4, v147]) 4 rfl rfl (by decide) rfl Try.el97.sized rfl rfl (IsSl.list sl148) rfl (Nat.le_of_ble_eq_true rfl) (cel_cons (IsSl.cel sl148) cel_nil) rfl rfl (sY (sY (sY (sY (sN (sY sE)))))) (fun r h => h) ?_
 refine tP (Value.pointer (some ⟨b13, 2, none⟩)) rfl (fun w => sP) ?_
 refine TW.store (v := v150) (cs := [v150]) (c' := #[(vB n.leaf), v144, v150, v147]) 4 rfl rfl (by decide) rfl Try.el96.sized rfl rfl (IsSl.list sl151) rfl (Nat.le_of_ble_eq_true rfl) (cel_cons (IsSl.cel sl151) cel_nil) rfl rfl (sY (sY (sY (sY (sN (sY sE)))))) (fun r h => h) ?_
 refine TW.done (fun w156 M => ?_)
 refine W.region rfl (wM (vP tb) (wS (Value.agg #[(vI h.at_), (vI h.turn)]) rfl (Step.loadN Try.ag92 rfl (M.blk 5 rfl) (Nat.le_of_ble_eq_true rfl) rfl) (wS (Value.agg #[(vB n.leaf), v144, v150, v147]) rfl (Step.loadN Try.ag99 rfl (M.blk 4 rfl) (Nat.le_of_ble_eq_true rfl) rfl) ?_)))
 have fq := M.frm [arenaC 143 145 S124 ab l2_] [oH v150 (n.kids.take (Int.toNat (↑(i + 1))) ++ n.kids.drop (Int.toNat (↑(i + 2)))), oI v147 (n.vals.take (Int.toNat ↑i) ++ n.vals.drop (Int.toNat (↑(i + 1)))), oS v144 (n.keys.take (Int.toNat ↑i) ++ n.keys.drop (Int.toNat (↑(i + 1)))), bk b13 #[(vB n.leaf), v144, v150, v147] 99, bk b1 #[(vI h.at_), (vI h.turn)] 92] [3, 0, 1, 2, 4, 5] rfl
 refine WL.callX rfl (tr_put tb ab r fu ln l2_ S124 h v144 v150 v147 (⟨n.leaf, n.keys.take (Int.toNat ↑i) ++ n.keys.drop (Int.toNat (↑(i + 1))), n.kids.take (Int.toNat (↑(i + 1))) ++ n.kids.drop (Int.toNat (↑(i + 2))), n.vals.take (Int.toNat ↑i) ++ n.vals.drop (Int.toNat (↑(i + 1)))⟩ : Nd) (by assumption) (by simp [insL] <;> omega) (by simp [insL] <;> omega) (by simp [insL] <;> omega) (M.eF fq ⟨(M.rF fq 0 rfl), ((M.cF fq 2 rfl).imp fun _ h => own_slAt h), ((M.cF fq 0 rfl).imp fun _ h => own_slAt h), ((M.cF fq 1 rfl).imp fun _ h => own_slAt h), trivial⟩)) (CallsF.func Try.en84 rfl) ?_
 rintro _ w158 ⟨S157, rfl, m⟩
 replace M := M.lF fq m
 clear m
 refine WL.nil ?_
 refine ⟨.inr rfl, undef, ?_, ?_⟩
 · exact ⟨rfl, Res.none⟩
 have e159 : (joinF l h i) = (rput l2_ h (⟨n.leaf, n.keys.take (Int.toNat ↑i) ++ n.keys.drop (Int.toNat (↑(i + 1))), n.kids.take (Int.toNat (↑(i + 1))) ++ n.kids.drop (Int.toNat (↑(i + 2))), n.vals.take (Int.toNat ↑i) ++ n.vals.drop (Int.toNat (↑(i + 1)))⟩ : Nd)).1 := by
  rw [joinF_eq hn hgd1_ hgd2_ hna_ hnb_]
  subst hl2_
  subst hl1_
  try simp only [drop_rest]
  have h2i_ : ((i : Int) + 2).toNat = i + 2 := by omega
  simp [List.eraseIdx_eq_take_drop_succ, h2i_, hx18, hx22]
 replace M := M.rechunk 0 (c' := arenaC 143 145 S157 ab (joinF l h i)) rfl (congrArg (fun z => arenaC 143 145 S157 ab z) e159.symm)
 refine ⟨S157, ?_, M.close [0] rfl (by decide) trivial⟩
 rfl
end Go.Proofs
set_option maxRecDepth 100000
namespace Go.Proofs
open Go Tp
theorem Try.en118 : Enters Try.prog 118 := fun _ _ => by kernel_rfl
theorem Try.en119 : Enters Try.prog 119 := fun _ _ => by kernel_rfl
theorem Try.en120 : Enters Try.prog 120 := fun _ _ => by kernel_rfl
theorem Try.sc26 : Scal Try.prog 26 := fun _ => by kernel_rfl
theorem tr_rich {G X : Nat → Prop} {w : World} (j : Int) (nb : Nat) (kv : Value) (dv : Value) (vv : Value) (n : Nd) (qb : Nat) (tb ab : Nat) (r : Handle) (fu : Bool) (ln : Int) (l : List RPlace) (S : Nat → Prop)  (hA : SmallA l) (M : Mem G X w [arenaC 143 145 S ab l] [bF nb #[(vB n.leaf), kv, dv, vv] 99, fS kv n.keys, fH dv n.kids, fI vv n.vals, bF qb #[(vP tb)] 26, bF tb #[(vP ab), (vI r.at_), (vI r.turn), (vB fu), (vI ln)] 94] w) : Rets Try.prog 118 #[(vI j), (vP nb), (vP qb)] w fun r w' => r = (vB (richF l n j)) ∧ Mem G X w [arenaC 143 145 S ab l] [] w' := by
 refine Rets.enter 26 _ Try.func118 rfl Try.ntmps118 Try.results118 (by simp) ?_
 have hle1 := SlAt.le' (M.rep 1 rfl)
 have hle2 := SlAt.le' (M.rep 2 rfl)
 have hle3 := SlAt.le' (M.rep 3 rfl)
 have sl4 : IsSl kv := SlAt.isSl (Mem.rep M 1 rfl)
 have sl5 : IsSl dv := SlAt.isSl (Mem.rep M 2 rfl)
 have sl6 : IsSl vv := SlAt.isSl (Mem.rep M 3 rfl)
 refine wR (wA (vB false) (WL.nil (W.seq' ?_)))
 rcases Bool.eq_false_or_eq_true (decide ((j : Int) ≥ (0 : Int))) with h7 | h7
 ·
  have h7p := of_decide_eq_true h7
  rcases Bool.eq_false_or_eq_true (decide ((j : Int) < (↑n.kids.length : Int))) with h8 | h8
  ·
   have h8p := of_decide_eq_true h8
   obtain ⟨cap10, hb9⟩ := SlAt.base (M.rep 2 rfl) (by omega)
   obtain ⟨x11, hx11⟩ := elem_of_lt (xs := n.kids) (i := j.toNat) (by omega)
   have hgd1_ : n.kids.getD j.toNat hdZero = x11 := by rw [List.getD_eq_getElem?_getD, hx11]; rfl
   refine W.drawn M [0, 1, 2, 3, 4, 5, 6, 7, 8, 9, 10, 11, 12, 13, 14, 15, 16, 17, 18, 19, 20, 21] [16] [] _ _ (sY sE) (fun _ h => h) Try.mixed (by kernel_rfl) ?_
   refine tP (vI j) rfl (fun w => (Step.move rfl)) ?_
   refine tP (vB true) rfl (fun w => (Step.cast (congrArg Value.bool h7) sP)) ?_
   refine tP (vB true) rfl (fun w => (Step.move rfl)) ?_
   refine tP (vI j) rfl (fun w => (Step.move rfl)) ?_
   refine tP (Value.pointer (some ⟨nb, 2, none⟩)) rfl (fun w => sP) ?_
   refine tR dv rfl (fun A w M => (Step.load1 Try.sc96 rfl ((cell_blk (M.rep 0 rfl) 2).trans rfl))) ?_
   refine tR (vI ↑n.kids.length) rfl (fun A w M => (Step.lenSl Try.un96 rfl (M.rep 2 rfl))) ?_
   refine tP (vB true) rfl (fun w => (Step.cast (congrArg Value.bool h8) sP)) ?_
   refine tP (vB true) rfl (fun w => (Step.pick (t := true) rfl rfl)) ?_
   refine tP (vB true) rfl (fun w => (Step.move rfl)) ?_
   refine tR (vP tb) rfl (fun A w M => (Step.load1 Try.sc26 rfl ((cell_blk (M.rep 4 rfl) 0).trans rfl))) ?_
   refine tP (Value.pointer (some ⟨nb, 2, none⟩)) rfl (fun w => sP) ?_
   refine tR dv rfl (fun A w M => (Step.load1 Try.sc96 rfl ((cell_blk (M.rep 0 rfl) 2).trans rfl))) ?_
   refine tP (vI j) rfl (fun w => (Step.move rfl)) ?_
   refine tP (vQ dv j.toNat 2) rfl (fun w => (sX j.toNat Try.un96 Try.el92 rfl rfl hb9)) ?_
   refine tR (Value.agg #[(vI x11.at_), (vI x11.turn)]) rfl (fun A w M => (Step.loadEN (k := 0) (cs' := [(vI x11.at_), (vI x11.turn)]) Try.ag92 (flat_ec (M.rep 2 rfl) hx11 handleE_len) (by decide) rfl rfl rfl)) ?_
   obtain ⟨na_, hna_⟩ : ∃ n, (rget l x11).1 = n := ⟨_, rfl⟩
   refine TW.callX (ι := Value × Value × Value) (fun jx v_ => v_ = (Value.agg #[(vB na_.leaf), jx.1, jx.2.1, jx.2.2])) (fun jx => [oS jx.1 na_.keys, oH jx.2.1 na_.kids, oI jx.2.2 na_.vals, arenaC 143 145 S ab l]) (fun jx => [bF nb #[(vB n.leaf), kv, dv, vv] 99, fS kv n.keys, fH dv n.kids, fI vv n.vals, bF qb #[(vP tb)] 26, bF tb #[(vP ab), (vI r.at_), (vI r.turn), (vB fu), (vI ln)] 94]) rfl (by decide) rfl (fun jx => (sN (sN (sN (sY sE))))) (fun jx r h => h) (fun A w M => have fq := M.frm [arenaC 143 145 S ab l] [fl A] [1, 0] rfl; Rets.mono (tr_node tb ab r fu ln l S x11 (by assumption) na_ hna_ (M.eF fq ⟨(M.rF fq 5 rfl), trivial⟩)) (fun v_ w_ ⟨kv18, dv19, vv20, e_, m⟩ => ⟨(kv18, dv19, vv20), e_, (M.lF fq m).sel [4, 1, 2, 3, 0] rfl (by decide), fun b hb => M.kF fq m b hb⟩)) (fun w => CallsF.func Try.en49 rfl) (fun jx v hp hin => ?_)
   obtain ⟨kv18, dv19, vv20⟩ := jx
   replace hp := hp.symm; subst hp
   obtain ⟨_, _, hin⟩ := hin
   have sl21 : IsSl kv18 := SlAt.isSl (own_slAt (Mem.chunk hin 1 rfl).inv)
   have hle22 := SlAt.le' (own_slAt (Mem.chunk hin 1 rfl).inv)
   have hsh23 := (own_slAt (Mem.chunk hin 1 rfl).inv).shp
   have sl24 : IsSl dv19 := SlAt.isSl (own_slAt (Mem.chunk hin 2 rfl).inv)
   have hle25 := SlAt.le' (own_slAt (Mem.chunk hin 2 rfl).inv)
   have hsh26 := (own_slAt (Mem.chunk hin 2 rfl).inv).shp
   have sl27 : IsSl vv20 := SlAt.isSl (own_slAt (Mem.chunk hin 3 rfl).inv)
   have hle28 := SlAt.le' (own_slAt (Mem.chunk hin 3 rfl).inv)
   have hsh29 := (own_slAt (Mem.chunk hin 3 rfl).inv).shp
   clear hin
   refine tP kv18 rfl (fun w => sP) ?_
   refine tP (vI ↑na_.keys.length) rfl (fun w => (Step.lenP Try.un22 rfl hsh23)) ?_
   refine tP (vB (decide ((↑na_.keys.length : Int) > (2 : Int)))) rfl (fun w => sP) ?_
   refine tP (vB (decide ((↑na_.keys.length : Int) > (2 : Int)))) rfl (fun w => (Step.pick (t := true) rfl rfl)) ?_
   refine tP (vB (decide ((↑na_.keys.length : Int) > (2 : Int)))) rfl (fun w => (Step.assign rfl)) ?_
   refine TW.done (fun w30 M => ?_)
   refine W.ret ?_
   refine ⟨.inl rfl, (vB (decide ((↑na_.keys.length : Int) > (2 : Int)))), ?_, ?_⟩
   · exact ⟨rfl, (Res.r1 (show RV _ _ _ (.tmp 4) (vB (decide ((↑na_.keys.length : Int) > (2 : Int)))) from by exact rfl))⟩
   refine ⟨?_, M.close [3] rfl (by decide) trivial⟩
   refine congrArg Value.bool ?_
   unfold richF; rw [hgd1_, hna_]; simp [h7p, h8p, hx11]; try omega
  ·
   have h8p := of_decide_eq_false h8
   refine W.drawn M [0, 1, 2, 3, 4, 5, 6, 7, 8, 9, 10, 11, 12, 13, 14, 15, 16, 17, 18, 19, 20, 21] [16] [] _ _ (sY sE) (fun _ h => h) Try.mixed (by kernel_rfl) ?_
   refine tP (vI j) rfl (fun w => (Step.move rfl)) ?_
   refine tP (vB true) rfl (fun w => (Step.cast (congrArg Value.bool h7) sP)) ?_
   refine tP (vB true) rfl (fun w => (Step.move rfl)) ?_
   refine tP (vI j) rfl (fun w => (Step.move rfl)) ?_
   refine tP (Value.pointer (some ⟨nb, 2, none⟩)) rfl (fun w => sP) ?_
   refine tR dv rfl (fun A w M => (Step.load1 Try.sc96 rfl ((cell_blk (M.rep 0 rfl) 2).trans rfl))) ?_
   refine tR (vI ↑n.kids.length) rfl (fun A w M => (Step.lenSl Try.un96 rfl (M.rep 2 rfl))) ?_
   refine tP (vB false) rfl (fun w => (Step.cast (congrArg Value.bool h8) sP)) ?_
   refine tP (vB false) rfl (fun w => (Step.pick (t := true) rfl rfl)) ?_
   refine tP (vB false) rfl (fun w => (Step.move rfl)) ?_
   refine TW.skip rfl rfl ?_
   refine TW.skip rfl rfl ?_
   refine TW.skip rfl rfl ?_
   refine TW.skip rfl rfl ?_
   refine TW.skip rfl rfl ?_
   refine TW.skip rfl rfl ?_
   refine TW.skip rfl rfl ?_
   refine TW.skip rfl rfl ?_
   refine TW.skip rfl rfl ?_
   refine TW.skip rfl rfl ?_
   refine tP (vB false) rfl (fun w => (Step.pick (t := false) rfl rfl)) ?_
   refine tP (vB false) rfl (fun w => (Step.assign rfl)) ?_
   refine TW.done (fun w31 M => ?_)
   refine W.ret ?_
   refine ⟨.inl rfl, (vB false), ?_, ?_⟩
   · exact ⟨rfl, (Res.r1 (show RV _ _ _ (.tmp 4) (vB false) from by exact rfl))⟩
   refine ⟨?_, M.close [0] rfl (by decide) trivial⟩
   refine congrArg Value.bool ?_
   unfold richF; simp [h7p, h8p]; try omega
 ·
  have h7p := of_decide_eq_false h7
  refine W.drawn M [0, 1, 2, 3, 4, 5, 6, 7, 8, 9, 10, 11, 12, 13, 14, 15, 16, 17, 18, 19, 20, 21] [16] [] _ _ (sY sE) (fun _ h => h) Try.mixed (by kernel_rfl) ?_
  refine tP (vI j) rfl (fun w => (Step.move rfl)) ?_
  refine tP (vB false) rfl (fun w => (Step.cast (congrArg Value.bool h7) sP)) ?_
  refine tP (vB false) rfl (fun w => (Step.move rfl)) ?_
  refine TW.skip rfl rfl ?_
  refine TW.skip rfl rfl ?_
  refine TW.skip rfl rfl ?_
  refine TW.skip rfl rfl ?_
  refine TW.skip rfl rfl ?_
  refine tP (vB false) rfl (fun w => (Step.pick (t := false) rfl rfl)) ?_
  refine tP (vB false) rfl (fun w => (Step.move rfl)) ?_
  refine TW.skip rfl rfl ?_
  refine TW.skip rfl rfl ?_
  refine TW.skip rfl rfl ?_
  refine TW.skip rfl rfl ?_
  refine TW.skip rfl rfl ?_
  refine TW.skip rfl rfl ?_
  refine TW.skip rfl rfl ?_
  refine TW.skip rfl rfl ?_
  refine TW.skip rfl rfl ?_
  refine TW.skip rfl rfl ?_
  refine tP (vB false) rfl (fun w => (Step.pick (t := false) rfl rfl)) ?_
  refine tP (vB false) rfl (fun w => (Step.assign rfl)) ?_
  refine TW.done (fun w32 M => ?_)
  refine W.ret ?_
  refine ⟨.inl rfl, (vB false), ?_, ?_⟩
  · exact ⟨rfl, (Res.r1 (show RV _ _ _ (.tmp 4) (vB false) from by exact rfl))⟩
  refine ⟨?_, M.close [0] rfl (by decide) trivial⟩
  refine congrArg Value.bool ?_
  unfold richF; simp [h7p]; try omega
set_option maxHeartbeats 1000000 in
theorem tr_mend {G X : Nat → Prop} {w : World} (tb ab : Nat) (r : Handle) (fu : Bool) (ln : Int) (l : List RPlace) (S : Nat → Prop) (h : Handle) (i : Nat)  (hO : mendOk l h i) (M : Mem G X w [arenaC 143 145 S ab l] [bF tb #[(vP ab), (vI r.at_), (vI r.turn), (vB fu), (vI ln)] 94] w) : Rets Try.prog 92 #[(vP tb), (Value.agg #[(vI h.at_), (vI h.turn)]), (vI ↑i)] w fun r w' => ∃ (S' : Nat → Prop), r = undef ∧ Mem G X w [arenaC 143 145 S' ab (mendF l h i)] [] w' := by
 refine Rets.enter 53 _ Try.func92 rfl Try.ntmps92 Try.results92 (by simp) ?_
 obtain ⟨n, hn⟩ : ∃ n, (rget l h).1 = n := ⟨_, rfl⟩
 obtain ⟨hA, hty, hik_, hk2_⟩ := mendOk_n hO hn
 obtain ⟨ht1, ht2, ht3⟩ := hty
 refine wR ?_
 refine WL.box (v := (vP tb)) (c := #[(vP tb)]) M rfl rfl rfl (fun b1 w2 hb1 M => ?_)
 refine WL.box (v := (Value.agg #[(vI h.at_), (vI h.turn)])) (c := #[(vI h.at_), (vI h.turn)]) M rfl rfl rfl (fun b3 w4 hb3 M => ?_)
 refine WL.nil (wR (wS (vP tb) rfl (Step.load1 Try.sc26 rfl ((M.cell 1 rfl 0).trans rfl)) (wS (Value.agg #[(vI h.at_), (vI h.turn)]) rfl (Step.loadN Try.ag92 rfl (M.blk 0 rfl) (Nat.le_of_ble_eq_true rfl) rfl) ?_)))
 have fq := M.frm [arenaC 143 145 S ab l] [bk b3 #[(vI h.at_), (vI h.turn)] 92, bk b1 #[(vP tb)] 26] [2, 0, 1] rfl
 refine WL.callX rfl (tr_node tb ab r fu ln l S h (by assumption) n hn (M.eF fq ⟨(M.rF fq 0 rfl), trivial⟩)) (CallsF.func Try.en49 rfl) ?_
 rintro _ w8 ⟨kv5, dv6, vv7, rfl, m⟩
 replace M := M.lF fq m
 clear m
 have sl9 : IsSl kv5 := SlAt.isSl (own_slAt (Mem.chunk M 1 rfl).inv)
 have hle10 := SlAt.le' (own_slAt (Mem.chunk M 1 rfl).inv)
 have sl11 : IsSl dv6 := SlAt.isSl (own_slAt (Mem.chunk M 2 rfl).inv)
 have hle12 := SlAt.le' (own_slAt (Mem.chunk M 2 rfl).inv)
 have sl13 : IsSl vv7 := SlAt.isSl (own_slAt (Mem.chunk M 3 rfl).inv)
 have hle14 := SlAt.le' (own_slAt (Mem.chunk M 3 rfl).inv)
 refine WL.alloc (c := #[(vB false), vZ, vZ, vZ]) M rfl Try.el99.zero rfl (fun b15 w16 hb15 M => ?_)
 refine WL.store (v := (Value.agg #[(vB n.leaf), kv5, dv6, vv7])) (cs := [(vB n.leaf), kv5, dv6, vv7]) (c' := #[(vB n.leaf), kv5, dv6, vv7]) M 0 rfl rfl Try.el99.sized rfl rfl rfl rfl (Nat.le_of_ble_eq_true rfl) (cel_cons rfl (cel_cons (IsSl.cel sl9) (cel_cons (IsSl.cel sl11) (cel_cons (IsSl.cel sl13) cel_nil)))) rfl rfl (fun w17 M => ?_)
 refine WL.nil (W.seq' (W.seq' ?_))
 obtain ⟨cap19, hb18⟩ := SlAt.base (own_slAt (M.chunk 3 rfl).inv) (by omega)
 obtain ⟨x20, hx20⟩ := elem_of_lt (xs := n.kids) (i := i) (by omega)
 have hgd1_ : n.kids.getD i hdZero = x20 := by rw [List.getD_eq_getElem?_getD, hx20]; rfl
 refine W.drawn M [0, 1, 2, 3, 4, 5, 6, 7, 8, 9] [6] [] _ _ (sY (sY (sY (sY (sY (sY (sY sE))))))) (fun _ h => h) Try.mixed (by kernel_rfl) ?_
 refine tR (vP tb) rfl (fun A w M => (Step.load1 Try.sc26 rfl ((M.cell 7 rfl 0).trans rfl))) ?_
 refine tP (Value.pointer (some ⟨b15, 2, none⟩)) rfl (fun w => sP) ?_
 refine tR dv6 rfl (fun A w M => (Step.load1 Try.sc96 rfl ((M.cell 1 rfl 2).trans rfl))) ?_
 refine tP (vI ↑i) rfl (fun w => (Step.move rfl)) ?_
 refine tP (vQ dv6 i 2) rfl (fun w => (sX i Try.un96 Try.el92 rfl rfl hb18)) ?_
 refine tR (Value.agg #[(vI x20.at_), (vI x20.turn)]) rfl (fun A w M => (Step.loadEN (k := 0) (cs' := [(vI x20.at_), (vI x20.turn)]) Try.ag92 (flat_ec (own_slAt (M.chunk 4 rfl).inv) hx20 handleE_len) (by decide) rfl rfl rfl)) ?_
 obtain ⟨na_, hna_⟩ : ∃ n, (rget l x20).1 = n := ⟨_, rfl⟩
 let Q : List Chunk := [bk b15 #[(vB n.leaf), kv5, dv6, vv7] 99, oS kv5 n.keys, oH dv6 n.kids, oI vv7 n.vals, bk b3 #[(vI h.at_), (vI h.turn)] 92, bk b1 #[(vP tb)] 26]
 refine TW.callX (ι := Value × Value × Value) (fun jx v_ => v_ = (Value.agg #[(vB na_.leaf), jx.1, jx.2.1, jx.2.2])) (fun jx => [oS jx.1 na_.keys, oH jx.2.1 na_.kids, oI jx.2.2 na_.vals, bk b15 #[(vB n.leaf), kv5, dv6, vv7] 99, arenaC 143 145 S ab l, oS kv5 n.keys, oH dv6 n.kids, oI vv7 n.vals, bk b3 #[(vI h.at_), (vI h.turn)] 92, bk b1 #[(vP tb)] 26]) (fun jx => [bF tb #[(vP ab), (vI r.at_), (vI r.turn), (vB fu), (vI ln)] 94]) rfl (by decide) rfl (fun jx => (sN (sN (sN (sY (sY (sY (sY (sY (sY (sY sE))))))))))) (fun jx r h => h) (fun A w M => have fq := M.frm [arenaC 143 145 S ab l] (fl A :: Q) [2, 0, 1, 3, 4, 5, 6, 7] rfl; Rets.mono (tr_node tb ab r fu ln l S x20 (by assumption) na_ hna_ (M.eF fq ⟨(M.rF fq 0 rfl), trivial⟩)) (fun v_ w_ ⟨kv27, dv28, vv29, e_, m⟩ => ⟨(kv27, dv28, vv29), e_, (M.lF fq m).sel [4, 1, 2, 3, 5, 0, 6, 7, 8, 9, 10] rfl (by decide), fun b hb => M.kF fq m b hb⟩)) (fun w => CallsF.func Try.en49 rfl) (fun jx v hp hin => ?_)
 obtain ⟨kv27, dv28, vv29⟩ := jx
 replace hp := hp.symm; subst hp
 obtain ⟨_, _, hin⟩ := hin
 have sl30 : IsSl kv27 := SlAt.isSl (own_slAt (Mem.chunk hin 1 rfl).inv)
 have hle31 := SlAt.le' (own_slAt (Mem.chunk hin 1 rfl).inv)
 have hsh32 := (own_slAt (Mem.chunk hin 1 rfl).inv).shp
 have sl33 : IsSl dv28 := SlAt.isSl (own_slAt (Mem.chunk hin 2 rfl).inv)
 have hle34 := SlAt.le' (own_slAt (Mem.chunk hin 2 rfl).inv)
 have hsh35 := (own_slAt (Mem.chunk hin 2 rfl).inv).shp
 have sl36 : IsSl vv29 := SlAt.isSl (own_slAt (Mem.chunk hin 3 rfl).inv)
 have hle37 := SlAt.le' (own_slAt (Mem.chunk hin 3 rfl).inv)
 have hsh38 := (own_slAt (Mem.chunk hin 3 rfl).inv).shp
 clear hin
 refine tP kv27 rfl (fun w => sP) ?_
 refine tP (vI ↑na_.keys.length) rfl (fun w => (Step.lenP Try.un22 rfl hsh32)) ?_
 refine tP (vB (decide ((↑na_.keys.length : Int) ≥ (2 : Int)))) rfl (fun w => sP) ?_
 refine TW.done (fun w39 M => ?_)
 refine W.cond (t := decide ((↑na_.keys.length : Int) ≥ (2 : Int))) rfl (fun h40 => ?_) (fun h40 => ?_)
 ·
  have h40p := of_decide_eq_true h40
  refine W.ret ?_
  refine ⟨.inl rfl, undef, ?_, ?_⟩
  · exact ⟨rfl, Res.none⟩
  have e41 : (mendF l h i) = l := by
   rw [mend_keep hn hgd1_ hna_ (by omega)]
  replace M := M.rechunk 4 (c' := arenaC 143 145 S ab (mendF l h i)) rfl (congrArg (fun z => arenaC 143 145 S ab z) e41.symm)
  refine ⟨S, ?_, M.close [4] rfl (by decide) trivial⟩
  rfl
 ·
  have h40p := of_decide_eq_false h40
  obtain ⟨hp1_, hp2_⟩ := mendOk_pair hO hn hgd1_ hna_ (by omega)
  refine W.skip (wR (wP (Value.func (.func 118) #[] #[(vP b15), (vP b1)]) (wA (Value.func (.func 118) #[] #[(vP b15), (vP b1)]) (WL.nil (W.block ?_)))))
  refine W.seq' ?_
  replace M := M.loseI 2
  replace M := M.loseI 1
  replace M := M.loseI 0
  refine W.region rfl (wM (Value.func (.func 118) #[] #[(vP b15), (vP b1)]) (wM (vI ↑i) (wS (vI ((↑i : Int) - 1)) rfl (Step.sub rfl rfl (wrap_i64 (by omega))) ?_)))
  have fq := M.frm [arenaC 143 145 S ab l] [bk b15 #[(vB n.leaf), kv5, dv6, vv7] 99, oS kv5 n.keys, oH dv6 n.kids, oI vv7 n.vals, bk b3 #[(vI h.at_), (vI h.turn)] 92, bk b1 #[(vP tb)] 26] [1, 0, 2, 3, 4, 5, 6] rfl
  refine WL.callX rfl (tr_rich ((↑i : Int) - 1) b15 kv5 dv6 vv7 n b1 tb ab r fu ln l S (by assumption) (M.eF fq ⟨(M.cF fq 0 rfl), ((M.cF fq 1 rfl).imp fun _ h => own_slAt h), ((M.cF fq 2 rfl).imp fun _ h => own_slAt h), ((M.cF fq 3 rfl).imp fun _ h => own_slAt h), (M.cF fq 5 rfl), (M.rF fq 0 rfl), trivial⟩)) (CallsF.value Try.en118 rfl rfl rfl) ?_
  rintro _ w42 ⟨rfl, m⟩
  replace M := M.lF fq m
  clear m
  refine wA (vB (richF l n ((↑i : Int) - 1))) (WL.nil ?_)
  refine W.cond (t := richF l n ((↑i : Int) - 1)) rfl (fun h43 => ?_) (fun h43 => ?_)
  ·
   obtain ⟨hr1_, hr2_⟩ := rich_low h43
   have hi1_ : 0 < i := by omega
   have hO1_ := hp1_ hi1_
   refine W.region rfl (wS (vP tb) rfl (Step.load1 Try.sc26 rfl ((M.cell 6 rfl 0).trans rfl)) (wS (Value.agg #[(vI h.at_), (vI h.turn)]) rfl (Step.loadN Try.ag92 rfl (M.blk 5 rfl) (Nat.le_of_ble_eq_true rfl) rfl) (wM (vI ↑i) (wS (vI (↑(i - 1))) rfl (Step.cast (congrArg (Value.int .i64) (show ((↑i : Int) - 1 : Int) = ↑(i - 1) by omega)) (Step.sub rfl rfl (wrap_i64 (by omega)))) ?_))))
   have fq := M.frm [arenaC 143 145 S ab l] [bk b15 #[(vB n.leaf), kv5, dv6, vv7] 99, oS kv5 n.keys, oH dv6 n.kids, oI vv7 n.vals, bk b3 #[(vI h.at_), (vI h.turn)] 92, bk b1 #[(vP tb)] 26] [0, 1, 2, 3, 4, 5, 6] rfl
   refine WL.callX rfl (tr_turn tb ab r fu ln l S h (i - 1) false (by assumption) (M.eF fq ⟨(M.rF fq 0 rfl), trivial⟩)) (CallsF.func Try.en119 rfl) ?_
   rintro _ w45 ⟨S44, rfl, m⟩
   replace M := M.lF fq m
   clear m
   refine WL.nil ?_
   refine ⟨.inr rfl, undef, ?_, ?_⟩
   · exact ⟨rfl, Res.none⟩
   have e46 : (mendF l h i) = (turnF l h (i - 1) false) := by
    rw [mend_go hn hgd1_ hna_ (by omega)]
    simp [hx20, h40p, h43] <;> (intro h_; exfalso; omega)
   replace M := M.rechunk 0 (c' := arenaC 143 145 S44 ab (mendF l h i)) rfl (congrArg (fun z => arenaC 143 145 S44 ab z) e46.symm)
   refine ⟨S44, ?_, M.close [0] rfl (by decide) trivial⟩
   rfl
  ·
   refine wR (wM (Value.func (.func 118) #[] #[(vP b15), (vP b1)]) (wM (vI ↑i) (wS (vI (↑i + 1)) rfl (Step.add rfl rfl (wrap_i64 (by omega))) ?_)))
   have fq := M.frm [arenaC 143 145 S ab l] [bk b15 #[(vB n.leaf), kv5, dv6, vv7] 99, oS kv5 n.keys, oH dv6 n.kids, oI vv7 n.vals, bk b3 #[(vI h.at_), (vI h.turn)] 92, bk b1 #[(vP tb)] 26] [0, 1, 2, 3, 4, 5, 6] rfl
   refine WL.callX rfl (tr_rich (↑i + 1) b15 kv5 dv6 vv7 n b1 tb ab r fu ln l S (by assumption) (M.eF fq ⟨(M.cF fq 0 rfl), ((M.cF fq 1 rfl).imp fun _ h => own_slAt h), ((M.cF fq 2 rfl).imp fun _ h => own_slAt h), ((M.cF fq 3 rfl).imp fun _ h => own_slAt h), (M.cF fq 5 rfl), (M.rF fq 0 rfl), trivial⟩)) (CallsF.value Try.en118 rfl rfl rfl) ?_
   rintro _ w47 ⟨rfl, m⟩
   replace M := M.lF fq m
   clear m
   refine wA (vB (richF l n (↑i + 1))) (WL.nil ?_)
   refine W.cond (t := richF l n (↑i + 1)) rfl (fun h48 => ?_) (fun h48 => ?_)
   ·
    obtain ⟨hr1_, hr2_⟩ := rich_low h48
    have hO1_ := hp2_ (by omega)
    replace M := M.loseI 4
    replace M := M.loseI 3
    replace M := M.loseI 2
    replace M := M.loseI 1
    refine W.region rfl (wS (vP tb) rfl (Step.load1 Try.sc26 rfl ((M.cell 2 rfl 0).trans rfl)) (wS (Value.agg #[(vI h.at_), (vI h.turn)]) rfl (Step.loadN Try.ag92 rfl (M.blk 1 rfl) (Nat.le_of_ble_eq_true rfl) rfl) (wM (vI ↑i) ?_)))
    have fq := M.frm [arenaC 143 145 S ab l] [bk b3 #[(vI h.at_), (vI h.turn)] 92, bk b1 #[(vP tb)] 26] [0, 1, 2] rfl
    refine WL.callX rfl (tr_turn tb ab r fu ln l S h i true (by assumption) (M.eF fq ⟨(M.rF fq 0 rfl), trivial⟩)) (CallsF.func Try.en119 rfl) ?_
    rintro _ w50 ⟨S49, rfl, m⟩
    replace M := M.lF fq m
    clear m
    refine WL.nil ?_
    refine ⟨.inr rfl, undef, ?_, ?_⟩
    · exact ⟨rfl, Res.none⟩
    have e51 : (mendF l h i) = (turnF l h i true) := by
     rw [mend_go hn hgd1_ hna_ (by omega)]
     simp [hx20, h40p, h43, h48] <;> (intro h_; exfalso; omega)
    replace M := M.rechunk 0 (c' := arenaC 143 145 S49 ab (mendF l h i)) rfl (congrArg (fun z => arenaC 143 145 S49 ab z) e51.symm)
    refine ⟨S49, ?_, M.close [0] rfl (by decide) trivial⟩
    rfl
   ·
    refine wR (wM (vI ↑i) (wP (vB (decide ((↑i : Int) > (0 : Int)))) (wA (vB (decide ((↑i : Int) > (0 : Int)))) (WL.nil ?_))))
    refine W.cond (t := decide ((↑i : Int) > (0 : Int))) rfl (fun h52 => ?_) (fun h52 => ?_)
    ·
     have h52p := of_decide_eq_true h52
     have hi1_ : 0 < i := by omega
     have hO1_ := hp1_ hi1_
     replace M := M.loseI 4
     replace M := M.loseI 3
     replace M := M.loseI 2
     replace M := M.loseI 1
     refine W.region rfl (wS (vP tb) rfl (Step.load1 Try.sc26 rfl ((M.cell 2 rfl 0).trans rfl)) (wS (Value.agg #[(vI h.at_), (vI h.turn)]) rfl (Step.loadN Try.ag92 rfl (M.blk 1 rfl) (Nat.le_of_ble_eq_true rfl) rfl) (wM (vI ↑i) (wS (vI (↑(i - 1))) rfl (Step.cast (congrArg (Value.int .i64) (show ((↑i : Int) - 1 : Int) = ↑(i - 1) by omega)) (Step.sub rfl rfl (wrap_i64 (by omega)))) ?_))))
     have fq := M.frm [arenaC 143 145 S ab l] [bk b3 #[(vI h.at_), (vI h.turn)] 92, bk b1 #[(vP tb)] 26] [0, 1, 2] rfl
     refine WL.callX rfl (tr_join tb ab r fu ln l S h (i - 1) (by assumption) (M.eF fq ⟨(M.rF fq 0 rfl), trivial⟩)) (CallsF.func Try.en120 rfl) ?_
     rintro _ w54 ⟨S53, rfl, m⟩
     replace M := M.lF fq m
     clear m
     refine WL.nil ?_
     refine ⟨.inr rfl, undef, ?_, ?_⟩
     · exact ⟨rfl, Res.none⟩
     have e55 : (mendF l h i) = (joinF l h (i - 1)) := by
      rw [mend_go hn hgd1_ hna_ (by omega)]
      simp [hx20, h40p, h43, h48, h52p] <;> (intro h_; exfalso; omega)
     replace M := M.rechunk 0 (c' := arenaC 143 145 S53 ab (mendF l h i)) rfl (congrArg (fun z => arenaC 143 145 S53 ab z) e55.symm)
     refine ⟨S53, ?_, M.close [0] rfl (by decide) trivial⟩
     rfl
    ·
     have h52p := of_decide_eq_false h52
     have hO1_ := hp2_ (by omega)
     replace M := M.loseI 4
     replace M := M.loseI 3
     replace M := M.loseI 2
     replace M := M.loseI 1
     refine W.region rfl (wS (vP tb) rfl (Step.load1 Try.sc26 rfl ((M.cell 2 rfl 0).trans rfl)) (wS (Value.agg #[(vI h.at_), (vI h.turn)]) rfl (Step.loadN Try.ag92 rfl (M.blk 1 rfl) (Nat.le_of_ble_eq_true rfl) rfl) (wM (vI ↑i) ?_)))
     have fq := M.frm [arenaC 143 145 S ab l] [bk b3 #[(vI h.at_), (vI h.turn)] 92, bk b1 #[(vP tb)] 26] [0, 1, 2] rfl
     refine WL.callX rfl (tr_join tb ab r fu ln l S h i (by assumption) (M.eF fq ⟨(M.rF fq 0 rfl), trivial⟩)) (CallsF.func Try.en120 rfl) ?_
     rintro _ w57 ⟨S56, rfl, m⟩
     replace M := M.lF fq m
     clear m
     refine WL.nil ?_
     refine ⟨.inr rfl, undef, ?_, ?_⟩
     · exact ⟨rfl, Res.none⟩
     have e58 : (mendF l h i) = (joinF l h i) := by
      rw [mend_go hn hgd1_ hna_ (by omega)]
      simp [hx20, h40p, h43, h48, h52p] <;> (intro h_; exfalso; omega)
     replace M := M.rechunk 0 (c' := arenaC 143 145 S56 ab (mendF l h i)) rfl (congrArg (fun z => arenaC 143 145 S56 ab z) e58.symm)
     refine ⟨S56, ?_, M.close [0] rfl (by decide) trivial⟩
     rfl
end Go.Proofs
