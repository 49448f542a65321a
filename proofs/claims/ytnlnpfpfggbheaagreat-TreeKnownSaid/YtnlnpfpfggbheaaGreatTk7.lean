/- Proved here: lemmas and walks on which the claim stands (part 7 of 7). No condition. -/
import Derived.Test.YtnlnpfpfggbheaaGreatTk6
set_option linter.all false
set_option maxRecDepth 100000
namespace Go.Proofs
open Go Tp
theorem l_places {G : Nat → Prop} {w : World} (v : Value) (l : List TPl)  (hlb : l.length ≤ 400000) (hk4 : ∀ p, p ∈ l → p.keys.length ≤ 4) (M : Mem G (fun _ => False) w [] [RepS PlT v l] w) : Rets Tryz.prog 15 #[v] w fun r w' => ∃ (v' : Value) (cs' : List PlC) (N' : Nat → Prop), r = v' ∧ Mem G (fun _ => False) w [oL v' cs', rowsC 9 N' 0 cs' l] [] w' := by
 refine Rets.enter 34 _ Tryz.func15 rfl Tryz.ntmps15 Tryz.results15 (by simp) ?_
 have hle1 := RepS.le' (M.rep 0 rfl)
 have sl2 : IsSl v := RepS.isSl (Mem.rep M 0 rfl)
 obtain ⟨cs3, M⟩ := M.openS 0 rfl
 refine wR (wA vZ (WL.nil (wR (wA vZ (WL.nil ?_)))))
 refine W.seq' (wR (wA (vI 0) (WL.nil (W.block ?_))))
 replace M := M.ownNil 78 3
 replace M := M.rowsNil 9
 replace M := M.rechunk 0 (c' := rowsC 9 (fun _ => False) 0 ([] : List PlC) (l.take 0)) rfl (rfl)
 refine W.loop (fun kk ρ w' => ∃ (i_ : Nat) (v_ : Value) (cs_ : List PlC) (N_ : Nat → Prop), ((i_ ≤ l.length) ∧ kk = l.length - i_) ∧ ρ.has [(0, v), (2, vZ), (3, v_), (4, (vI ↑i_))] ∧ Mem G (fun _ => False) w [rowsC 9 N_ 0 cs_ (l.take i_), oL v_ cs_] [SlAt 3 v l.length cs3, RepL PlT cs3 l, RepS PlT v l]  w') _ ⟨0, _, _, _, ⟨(Nat.zero_le _), rfl⟩, ⟨rfl, rfl, rfl, rfl, rfl, rfl⟩, M⟩ ?_
 rintro _ ρ5 w4 ⟨i_, v_, cs_, N_, ⟨hi6, rfl⟩, hρ, M⟩
 obtain ⟨ρ5, rfl⟩ := hρ.know
 clear hρ
 have sl7 : IsSl v_ := SlAt.isSl (own_slAt (M.chunk 1 rfl).inv)
 have hcl_ : cs_.length ≤ 400000 := by have := rows_len (M.chunk 0 rfl).inv; rw [List.length_take] at this; omega
 refine W.seq' (wR (wM (vI ↑i_) (wM v (wS (vI ↑l.length) rfl (Step.lenSl Tryz.un38 rfl (M.rep 0 rfl)) (wP (vB (decide ((↑i_ : Int) < (↑l.length : Int)))) ?_)))))
 refine WL.nil ?_
 refine W.cond (t := decide ((↑i_ : Int) < (↑l.length : Int))) rfl (fun h8 => ?_) (fun h8 => ?_)
 ·
  have h8p := of_decide_eq_true h8
  refine W.skip (W.seq' (W.block (wR (wA vZ (WL.nil ?_)))))
  replace M := M.ownNil 9 1
  obtain ⟨cap10, hb9⟩ := SlAt.base (M.rep 0 rfl) (by omega)
  obtain ⟨p11, hp11⟩ := elem_of_lt (xs := l) (i := i_) (by omega)
  obtain ⟨kv12, M⟩ := pl_open M 0 1 rfl rfl rfl hp11
  have sl13 : IsSl kv12 := SlAt.isSl (Mem.rep M 1 rfl)
  have hpk_ : p11.keys.length ≤ 4 := (hk4 _ (List.mem_of_getElem? hp11))
  refine W.drawn M [0, 1, 2, 3, 4, 5, 6, 7, 8, 9, 10, 11, 12, 13, 14, 15, 16, 17, 18, 19, 20, 21] [17, 20] [19] _ _ (sN (sY (sN sE))) (fun _ h => h) Tryz.mixed (by kernel_rfl) ?_
  refine tP v_ rfl (fun w => (Step.move rfl)) ?_
  refine tP v rfl (fun w => (Step.move rfl)) ?_
  refine tP (vI ↑i_) rfl (fun w => (Step.move rfl)) ?_
  refine tP (vQ v i_ 3) rfl (fun w => (sX i_ Tryz.un38 Tryz.el47 rfl rfl hb9)) ?_
  refine tP (vQ v i_ 3) rfl (fun w => sP) ?_
  refine tR (vI p11.depth) rfl (fun A w M => (Step.loadE (k := 0) Tryz.sc3 (M.rep 0 rfl : EC _ _ _ _ _) (by decide) rfl rfl)) ?_
  refine tP v rfl (fun w => (Step.move rfl)) ?_
  refine tP (vI ↑i_) rfl (fun w => (Step.move rfl)) ?_
  refine tP (vQ v i_ 3) rfl (fun w => (sX i_ Tryz.un38 Tryz.el47 rfl rfl hb9)) ?_
  refine tP (vR v i_ 3 1) rfl (fun w => sP) ?_
  refine tR (vB p11.leaf) rfl (fun A w M => (Step.loadE (k := 1) Tryz.sc4 (M.rep 0 rfl : EC _ _ _ _ _) (by decide) rfl rfl)) ?_
  refine tP vZ rfl (fun w => (Step.move rfl)) ?_
  refine tP v rfl (fun w => (Step.move rfl)) ?_
  refine tP (vI ↑i_) rfl (fun w => (Step.move rfl)) ?_
  refine tP (vQ v i_ 3) rfl (fun w => (sX i_ Tryz.un38 Tryz.el47 rfl rfl hb9)) ?_
  refine tP (vR v i_ 3 2) rfl (fun w => sP) ?_
  refine tR kv12 rfl (fun A w M => (Step.loadE (k := 2) Tryz.sc23 (M.rep 0 rfl : EC _ _ _ _ _) (by decide) rfl rfl)) ?_
  refine TW.doesM (fun v_ => oS v_ (([] : List ByteArray) ++ p11.keys)) 0 rfl rfl (by decide) rfl (fun v_ => (sN (sY (sN sE)))) (fun r h => h) (fun A w M => M.appendF' ([] : List ByteArray) p11.keys (sv := kv12) 1 Tryz.un23 Tryz.el9 rfl (by decide) rfl rfl rfl (M.rep 1 rfl) strE_cel (by have := hpk_; simp only [maxLen, List.length_nil, List.length_cons, List.length_append]; omega) (by have := hpk_; (try simp only [List.length_nil, List.length_cons, List.length_append]); omega)) (fun v26 hin => ?_)
  obtain ⟨_, _, hin⟩ := hin
  have sl28 : IsSl v26 := SlAt.isSl (own_slAt (Mem.chunk hin 1 rfl).inv)
  clear hin
  refine tP (Value.agg #[(vI p11.depth), (vB p11.leaf), v26]) rfl (fun w => (by obtain ⟨_, _, _, e⟩ := sl28; subst e; exact sP)) ?_
  refine TW.new (obj := .cells #[(vI p11.depth), (vB p11.leaf), v26] 78) (fun b => .slice (some ⟨b, 0, none⟩) 1 1) rfl (by decide) (by decide) rfl (fun w => (by obtain ⟨_, _, _, e⟩ := sl28; subst e; exact Step.make (by kernel_rfl))) (fun b29 => ?_)
  refine TW.doesM (fun v_ => oL v_ (cs_ ++ ([(⟨p11.depth, p11.leaf, ⟨v26, sl28⟩⟩ : PlC)] : List PlC))) 3 rfl rfl (by decide) rfl (fun v_ => (sN (sN (sY (sN sE))))) (fun r h => h) (fun A w M => M.appendF' cs_ ([(⟨p11.depth, p11.leaf, ⟨v26, sl28⟩⟩ : PlC)] : List PlC) (sv := (Value.slice (some ⟨b29, 0, none⟩) 1 1)) 4 Tryz.un43 Tryz.el78 rfl (by decide) rfl rfl rfl (SlAt.of_blk (M.blk 1 rfl) rfl (by decide)) plcE_cel (by have := hcl_; simp only [maxLen, List.length_nil, List.length_cons, List.length_append]; omega) (by have := hcl_; (try simp only [List.length_nil, List.length_cons, List.length_append]); omega)) (fun v30 hin => ?_)
  obtain ⟨_, _, hin⟩ := hin
  have sl32 : IsSl v30 := SlAt.isSl (own_slAt (Mem.chunk hin 4 rfl).inv)
  clear hin
  refine tP v30 rfl (fun w => (Step.assign rfl)) ?_
  refine TW.done (fun w33 M => ?_)
  refine W.region rfl (wM (vI ↑i_) (wS (vI (↑i_ + 1)) rfl (Step.add rfl rfl (wrap_i64 (by omega))) (wA (vI (↑i_ + 1)) (WL.nil ?_))))
  replace M := M.rechunk 1 (c' := oS v26 p11.keys) rfl rfl
  replace M := M.sel (L' := [rowsC 9 N_ 0 cs_ (l.take i_), oS v26 p11.keys, bk b29 #[(vI p11.depth), (vB p11.leaf), v26] 78, oL v30 (cs_ ++ ([(⟨p11.depth, p11.leaf, ⟨v26, sl28⟩⟩ : PlC)] : List PlC))]) [2, 1, 0, 3] rfl (by decide)
  obtain ⟨N2_, M⟩ := M.rowsAdd (d := p11.depth) (lf := p11.leaf) (sl := sl28) (ks := p11.keys)
  replace M := M.rechunk 0 (c' := rowsC 9 N2_ 0 (cs_ ++ ([(⟨p11.depth, p11.leaf, ⟨v26, sl28⟩⟩ : PlC)] : List PlC)) (l.take (i_ + 1))) rfl (by rw [← take_snoc hp11])
  replace M := M.sel (L' := [rowsC 9 N2_ 0 (cs_ ++ ([(⟨p11.depth, p11.leaf, ⟨v26, sl28⟩⟩ : PlC)] : List PlC)) (l.take (i_ + 1)), oL v30 (cs_ ++ ([(⟨p11.depth, p11.leaf, ⟨v26, sl28⟩⟩ : PlC)] : List PlC))]) [0, 2] rfl (by decide)
  replace M := M.sub (List.Sublist.refl _) (R' := [SlAt 3 v l.length cs3, RepL PlT cs3 l, RepS PlT v l]) (fun r h => (List.mem_cons_of_mem _ (List.mem_cons_of_mem _ h)))
  exact ⟨_, (by omega), i_ + 1, v30, cs_ ++ ([(⟨p11.depth, p11.leaf, ⟨v26, sl28⟩⟩ : PlC)] : List PlC), N2_, ⟨(by omega), rfl⟩, ⟨rfl, rfl, rfl, rfl, rfl, rfl⟩, M⟩
 ·
  have h8p := of_decide_eq_false h8
  refine W.exit ?_
  refine thn_exit ?_
  refine thn_exit ?_
  refine inBlk_hit ?_
  refine wR (wM v_ (wA v_ (WL.nil ?_)))
  refine W.ret ?_
  refine ⟨.inl rfl, v_, ?_, ?_⟩
  · exact ⟨rfl, (Res.r1 (show RV _ _ _ (.tmp 2) v_ from by exact rfl))⟩
  have e34 : l = l.take i_ := by
   rw [List.take_of_length_le (by omega)]
  replace M := M.rechunk 0 (c' := rowsC 9 N_ 0 cs_ l) rfl (congrArg (fun z => rowsC 9 N_ 0 cs_ z) e34.symm)
  refine ⟨v_, cs_, N_, ?_, M.close [1, 0] rfl (by decide) trivial⟩
  rfl
end Go.Proofs
set_option maxRecDepth 100000
namespace Go.Proofs
open Go Tp
theorem Tryz.en22 : Enters Tryz.prog 22 := fun _ _ => by kernel_rfl
theorem Tryz.en23 : Enters Tryz.prog 23 := fun _ _ => by kernel_rfl
theorem Tryz.en24 : Enters Tryz.prog 24 := fun _ _ => by kernel_rfl
theorem Tryz.en25 : Enters Tryz.prog 25 := fun _ _ => by kernel_rfl
theorem Tryz.en26 : Enters Tryz.prog 26 := fun _ _ => by kernel_rfl
theorem Tryz.en30 : Enters Tryz.prog 30 := fun _ _ => by kernel_rfl
theorem Tryz.en41 : Enters Tryz.prog 41 := fun _ _ => by kernel_rfl
theorem Tryz.en42 : Enters Tryz.prog 42 := fun _ _ => by kernel_rfl
theorem Tryz.en43 : Enters Tryz.prog 43 := fun _ _ => by kernel_rfl
theorem Tryz.en44 : Enters Tryz.prog 44 := fun _ _ => by kernel_rfl
theorem Tryz.en45 : Enters Tryz.prog 45 := fun _ _ => by kernel_rfl
theorem Tryz.en46 : Enters Tryz.prog 46 := fun _ _ => by kernel_rfl
theorem Tryz.en47 : Enters Tryz.prog 47 := fun _ _ => by kernel_rfl
theorem Tryz.en48 : Enters Tryz.prog 48 := fun _ _ => by kernel_rfl
theorem Tryz.fl55 : (Tryz.prog.fieldsOf 55).toList = [⟨ "Key", 9, 0, false, "", "", 0⟩, ⟨ "Val", 3, 1, false, "", "", 16⟩] := by kernel_rfl
theorem Tryz.eg55 : Tryz.prog.eqGuardType Tryz.prog.depth 55 = false := by kernel_rfl
theorem Tryz.eq55 (d : Nat) (a0 : ByteArray) (a1 : Int) (b0 : ByteArray) (b1 : Int) : ∀ w, (Op.equalIn (d + 2) 55 (Value.agg #[(vS a0), (vI a1)]) (Value.agg #[(vS b0), (vI b1)])).run Tryz.prog w = .ok ((a0.toList == b0.toList) && (((a1 : Int) == (b1 : Int)) && true)) w :=
  (eq_struct (by kernel_rfl) (by kernel_rfl) (Tryz.fl55) (eqF_cons (x := (vS a0)) (y := (vS b0)) (by decide) (fun _ => by kernel_rfl) (fun _ => by kernel_rfl) (fun w => run_equalIn_string w _ _ _ _ (by kernel_rfl)) (eqF_cons (x := (vI a1)) (y := (vI b1)) (by decide) (fun _ => by kernel_rfl) (fun _ => by kernel_rfl) (fun w => run_equalIn_int w _ _ _ .i64 _ _ (by kernel_rfl)) eqF_nil)))
theorem l_does {G X : Nat → Prop} {w : World} (tb : Nat) (S : Nat → Prop) (row : List THit) (c : Nat) (rv : Value) (a : TAct)  (hc : c ≤ 800) (M : Mem G X w [tT S tb row c] [fR rv row] w) : Rets Tryz.prog 11 #[(vP tb), rv, (Value.agg #[(vI a.do_), (vS a.k), (vI a.v)])] w fun r w' => ∃ (rv' : Value) (S' : Nat → Prop), r = (Value.tuple #[rv', (vB true)]) ∧ Mem G X w [tT S' tb (doesR row a) (c + 1)] [fR rv' (doesR row a)] w' := by
 refine Rets.enter 89 _ Tryz.func11 rfl Tryz.ntmps11 Tryz.results11 (by simp) ?_
 have hle1 := SlAt.le' (M.rep 0 rfl)
 have sl2 : IsSl rv := SlAt.isSl (Mem.rep M 0 rfl)
 obtain ⟨hup0_, hrc_⟩ := tabC_up (M.chunk 0 rfl).inv
 refine wR ?_
 refine WL.box (v := (Value.agg #[(vI a.do_), (vS a.k), (vI a.v)])) (c := #[(vI a.do_), (vS a.k), (vI a.v)]) M rfl rfl rfl (fun b3 w4 hb3 M => ?_)
 refine wA vZ (wA (vB false) (WL.nil (wR (wM rv (wP (Value.pointer (some ⟨b3, 1, none⟩)) ?_)))))
 refine wS (vS a.k) rfl (Step.load1 Tryz.sc9 rfl ((M.cell 0 rfl 1).trans rfl)) ?_
 refine WL.callX rfl (r_get rv row a.k (M.enterW0 ⟨(M.wideR0 0 rfl), trivial⟩)) (CallsF.func Tryz.en26 rfl) ?_
 rintro _ w5 ⟨rfl, m⟩
 replace M := M.leaveW0 m
 clear m
 refine wM (Value.tuple #[(vI ((getL row a.k).1)), (vB ((getL row a.k).2))]) (wP (vI ((getL row a.k).1)) (wP (vB ((getL row a.k).2)) (wA (vI ((getL row a.k).1)) (wA (vB ((getL row a.k).2)) (WL.nil ?_)))))
 refine W.seq' (wR (wP (vP b3) (wS (vI a.do_) rfl (Step.load1 Tryz.sc3 rfl ((M.cell 0 rfl 0).trans rfl)) ?_)))
 refine WL.callX rfl (kit_pick a.do_ 4 (by omega) (M.enterW0 trivial)) (CallsF.func Tryz.en24 rfl) ?_
 rintro _ w6 ⟨rfl, m⟩
 replace M := M.leaveW0 m
 clear m
 refine WL.nil (W.block (W.seq' (wR (wP (vB ((pickI a.do_ 4 : Int) == (0 : Int))) (wA (vB ((pickI a.do_ 4 : Int) == (0 : Int))) ?_)))))
 refine WL.nil ?_
 refine W.cond (t := (pickI a.do_ 4 : Int) == (0 : Int)) rfl (fun h7 => ?_) (fun h7 => ?_)
 ·
  have h7p : (pickI a.do_ 4 : Int) = (0 : Int) := by simpa using h7
  refine W.skip ?_
  refine W.cond (t := (pickI a.do_ 4 : Int) == (0 : Int)) rfl (fun h8 => ?_) (fun h8 => ?_)
  ·
   refine wR (wM (vP tb) (wP (Value.pointer (some ⟨b3, 1, none⟩)) (wS (vS a.k) rfl (Step.load1 Tryz.sc9 rfl ((M.cell 0 rfl 1).trans rfl)) (wP (Value.pointer (some ⟨b3, 2, none⟩)) (wS (vI a.v) rfl (Step.load1 Tryz.sc3 rfl ((M.cell 0 rfl 2).trans rfl)) ?_)))))
   have fq := M.frm [tT S tb row c] [bk b3 #[(vI a.do_), (vS a.k), (vI a.v)] 26] [1, 0] rfl
   refine WL.callX rfl (T_put tb S row c a.k a.v (by first | assumption | omega) (M.eF fq trivial)) (CallsF.func Tryz.en22 rfl) ?_
   rintro _ w10 ⟨S9, rfl, m⟩
   replace M := M.lF fq m
   clear m
   refine wM (Value.tuple #[(vI ((getL row a.k).1)), (vB ((getL row a.k).2))]) (wP (vI ((getL row a.k).1)) (wP (vB ((getL row a.k).2)) (wA (vI ((getL row a.k).1)) (wA (vB ((getL row a.k).2)) (WL.nil ?_)))))
   refine wR (wM rv (wP (Value.pointer (some ⟨b3, 1, none⟩)) (wS (vS a.k) rfl (Step.load1 Tryz.sc9 rfl ((M.cell 1 rfl 1).trans rfl)) (wP (Value.pointer (some ⟨b3, 2, none⟩)) (wS (vI a.v) rfl (Step.load1 Tryz.sc3 rfl ((M.cell 1 rfl 2).trans rfl)) ?_)))))
   refine WL.callX rfl (r_put rv row a.k a.v (by omega) (M.enter0 ⟨(M.shr' 0 rfl), trivial⟩)) (CallsF.func Tryz.en23 rfl) ?_
   rintro v11 w12 ⟨_, rfl, m⟩
   replace M := M.leave0 m
   clear m
   have sl13 : IsSl v11 := SlAt.isSl (Mem.rep M 0 rfl)
   have hle14 := SlAt.le' (M.rep 0 rfl)
   refine wM (vI ((getL row a.k).1)) (wM (vI ((getL row a.k).1)) (wS (vB true) rfl (Step.cast (congrArg Value.bool (show (((getL row a.k).1 : Int) == ((getL row a.k).1 : Int)) = true by simp)) sP) (wM (vB true) (wM (vB ((getL row a.k).2)) (wM (vB ((getL row a.k).2)) ?_)))))
   refine wS (vB true) rfl (Step.cast (congrArg Value.bool (by simp)) (Step.pure (v := .bool ((((getL row a.k).2) == ((getL row a.k).2)))) (by kernel_rfl))) (wS (vB true) rfl (Step.pick (t := true) rfl rfl) (wA v11 (wA (vB true) (WL.nil ?_))))
   refine W.ret ?_
   refine ⟨.inl rfl, (Value.tuple #[v11, (vB true)]), ?_, ?_⟩
   · exact ⟨rfl, (Res.r2 (show RV _ _ _ (.tmp 6) v11 from by exact rfl) (show RV _ _ _ (.tmp 7) (vB true) from by exact rfl))⟩
   have e15 : doesR row a = putR row (⟨a.k, a.v⟩ : THit) := by
    rw [does_put (.inl h7p)]
   replace M := M.rechunk 0 (c' := tT S9 tb (doesR row a) (c + 1)) rfl (by rw [e15])
   have e16 : doesR row a = putR row (⟨a.k, a.v⟩ : THit) := by
    rw [does_put (.inl h7p)]
   have hf17 := Sh.reList e16 (M.shr' 0 rfl)
   refine ⟨v11, S9, ?_, M.close [0] rfl (by decide) ⟨hf17, trivial⟩⟩
   rfl
  · exact absurd (h8.symm.trans h7) (by decide)
 ·
  have h7p : ¬ (pickI a.do_ 4 : Int) = (0 : Int) := by simpa using h7
  refine W.region rfl (wP (vB ((pickI a.do_ 4 : Int) == (1 : Int))) (wA (vB ((pickI a.do_ 4 : Int) == (1 : Int))) (WL.nil ?_)))
  refine W.cond (t := (pickI a.do_ 4 : Int) == (1 : Int)) rfl (fun h18 => ?_) (fun h18 => ?_)
  ·
   have h18p : (pickI a.do_ 4 : Int) = (1 : Int) := by simpa using h18
   refine wR (wM (vP tb) (wP (Value.pointer (some ⟨b3, 1, none⟩)) (wS (vS a.k) rfl (Step.load1 Tryz.sc9 rfl ((M.cell 0 rfl 1).trans rfl)) (wP (Value.pointer (some ⟨b3, 2, none⟩)) (wS (vI a.v) rfl (Step.load1 Tryz.sc3 rfl ((M.cell 0 rfl 2).trans rfl)) ?_)))))
   have fq := M.frm [tT S tb row c] [bk b3 #[(vI a.do_), (vS a.k), (vI a.v)] 26] [1, 0] rfl
   refine WL.callX rfl (T_put tb S row c a.k a.v (by first | assumption | omega) (M.eF fq trivial)) (CallsF.func Tryz.en22 rfl) ?_
   rintro _ w20 ⟨S19, rfl, m⟩
   replace M := M.lF fq m
   clear m
   refine wM (Value.tuple #[(vI ((getL row a.k).1)), (vB ((getL row a.k).2))]) (wP (vI ((getL row a.k).1)) (wP (vB ((getL row a.k).2)) (wA (vI ((getL row a.k).1)) (wA (vB ((getL row a.k).2)) (WL.nil ?_)))))
   refine wR (wM rv (wP (Value.pointer (some ⟨b3, 1, none⟩)) (wS (vS a.k) rfl (Step.load1 Tryz.sc9 rfl ((M.cell 1 rfl 1).trans rfl)) (wP (Value.pointer (some ⟨b3, 2, none⟩)) (wS (vI a.v) rfl (Step.load1 Tryz.sc3 rfl ((M.cell 1 rfl 2).trans rfl)) ?_)))))
   refine WL.callX rfl (r_put rv row a.k a.v (by omega) (M.enter0 ⟨(M.shr' 0 rfl), trivial⟩)) (CallsF.func Tryz.en23 rfl) ?_
   rintro v21 w22 ⟨_, rfl, m⟩
   replace M := M.leave0 m
   clear m
   have sl23 : IsSl v21 := SlAt.isSl (Mem.rep M 0 rfl)
   have hle24 := SlAt.le' (M.rep 0 rfl)
   refine wM (vI ((getL row a.k).1)) (wM (vI ((getL row a.k).1)) (wS (vB true) rfl (Step.cast (congrArg Value.bool (show (((getL row a.k).1 : Int) == ((getL row a.k).1 : Int)) = true by simp)) sP) (wM (vB true) (wM (vB ((getL row a.k).2)) (wM (vB ((getL row a.k).2)) ?_)))))
   refine wS (vB true) rfl (Step.cast (congrArg Value.bool (by simp)) (Step.pure (v := .bool ((((getL row a.k).2) == ((getL row a.k).2)))) (by kernel_rfl))) (wS (vB true) rfl (Step.pick (t := true) rfl rfl) (wA v21 (wA (vB true) (WL.nil ?_))))
   refine W.ret ?_
   refine ⟨.inl rfl, (Value.tuple #[v21, (vB true)]), ?_, ?_⟩
   · exact ⟨rfl, (Res.r2 (show RV _ _ _ (.tmp 6) v21 from by exact rfl) (show RV _ _ _ (.tmp 7) (vB true) from by exact rfl))⟩
   have e25 : doesR row a = putR row (⟨a.k, a.v⟩ : THit) := by
    rw [does_put (.inr h18p)]
   replace M := M.rechunk 0 (c' := tT S19 tb (doesR row a) (c + 1)) rfl (by rw [e25])
   have e26 : doesR row a = putR row (⟨a.k, a.v⟩ : THit) := by
    rw [does_put (.inr h18p)]
   have hf27 := Sh.reList e26 (M.shr' 0 rfl)
   refine ⟨v21, S19, ?_, M.close [0] rfl (by decide) ⟨hf27, trivial⟩⟩
   rfl
  ·
   have h18p : ¬ (pickI a.do_ 4 : Int) = (1 : Int) := by simpa using h18
   refine wR (wP (vB ((pickI a.do_ 4 : Int) == (2 : Int))) (wA (vB ((pickI a.do_ 4 : Int) == (2 : Int))) (WL.nil ?_)))
   refine W.cond (t := (pickI a.do_ 4 : Int) == (2 : Int)) rfl (fun h28 => ?_) (fun h28 => ?_)
   ·
    have h28p : (pickI a.do_ 4 : Int) = (2 : Int) := by simpa using h28
    refine wR (wM (vP tb) (wP (Value.pointer (some ⟨b3, 1, none⟩)) (wS (vS a.k) rfl (Step.load1 Tryz.sc9 rfl ((M.cell 0 rfl 1).trans rfl)) ?_)))
    have fq := M.frm [tT S tb row c] [bk b3 #[(vI a.do_), (vS a.k), (vI a.v)] 26] [1, 0] rfl
    refine WL.callX rfl (T_delete tb S row c a.k (by first | assumption | omega) (M.eF fq trivial)) (CallsF.func Tryz.en25 rfl) ?_
    rintro _ w30 ⟨S29, rfl, m⟩
    replace M := M.lF fq m
    clear m
    refine wM (Value.tuple #[(vI ((getL row a.k).1)), (vB ((getL row a.k).2))]) (wP (vI ((getL row a.k).1)) (wP (vB ((getL row a.k).2)) (wA (vI ((getL row a.k).1)) (wA (vB ((getL row a.k).2)) (WL.nil ?_)))))
    refine wR (wM rv (wP (Value.pointer (some ⟨b3, 1, none⟩)) (wS (vS a.k) rfl (Step.load1 Tryz.sc9 rfl ((M.cell 1 rfl 1).trans rfl)) ?_)))
    refine WL.callX rfl (r_delete rv row a.k (by omega) (M.enter0 ⟨(M.shr' 0 rfl), trivial⟩)) (CallsF.func Tryz.en27 rfl) ?_
    rintro v31 w32 ⟨_, rfl, m⟩
    replace M := M.leave0 m
    clear m
    have sl33 : IsSl v31 := SlAt.isSl (Mem.rep M 0 rfl)
    have hle34 := SlAt.le' (M.rep 0 rfl)
    refine wM (vI ((getL row a.k).1)) (wM (vI ((getL row a.k).1)) (wS (vB true) rfl (Step.cast (congrArg Value.bool (show (((getL row a.k).1 : Int) == ((getL row a.k).1 : Int)) = true by simp)) sP) (wM (vB true) (wM (vB ((getL row a.k).2)) (wM (vB ((getL row a.k).2)) ?_)))))
    refine wS (vB true) rfl (Step.cast (congrArg Value.bool (by simp)) (Step.pure (v := .bool ((((getL row a.k).2) == ((getL row a.k).2)))) (by kernel_rfl))) (wS (vB true) rfl (Step.pick (t := true) rfl rfl) (wA v31 (wA (vB true) (WL.nil ?_))))
    refine W.ret ?_
    refine ⟨.inl rfl, (Value.tuple #[v31, (vB true)]), ?_, ?_⟩
    · exact ⟨rfl, (Res.r2 (show RV _ _ _ (.tmp 6) v31 from by exact rfl) (show RV _ _ _ (.tmp 7) (vB true) from by exact rfl))⟩
    replace M := M.tabUp
    have e35 : doesR row a = delL row a.k := by
     rw [does_del h7p h18p h28p]
    replace M := M.rechunk 0 (c' := tT S29 tb (doesR row a) (c + 1)) rfl (by rw [e35])
    have e36 : doesR row a = delL row a.k := by
     rw [does_del h7p h18p h28p]
    have hf37 := Sh.reList e36 (M.shr' 0 rfl)
    refine ⟨v31, S29, ?_, M.close [0] rfl (by decide) ⟨hf37, trivial⟩⟩
    rfl
   ·
    have h28p : ¬ (pickI a.do_ 4 : Int) = (2 : Int) := by simpa using h28
    refine W.skip (wR (wM (vP tb) (wP (Value.pointer (some ⟨b3, 1, none⟩)) (wS (vS a.k) rfl (Step.load1 Tryz.sc9 rfl ((M.cell 0 rfl 1).trans rfl)) ?_))))
    have fq := M.frm [tT S tb row c] [bk b3 #[(vI a.do_), (vS a.k), (vI a.v)] 26] [1, 0] rfl
    refine WL.callX rfl (T_get tb S row c a.k (by first | assumption | omega) (M.eF fq trivial)) (CallsF.func Tryz.en28 rfl) ?_
    rintro _ w38 ⟨rfl, m⟩
    replace M := M.lF fq m
    clear m
    refine wM (Value.tuple #[(vI ((getL row a.k).1)), (vB ((getL row a.k).2))]) (wP (vI ((getL row a.k).1)) (wP (vB ((getL row a.k).2)) (wA (vI ((getL row a.k).1)) (wA (vB ((getL row a.k).2)) (WL.nil ?_)))))
    refine wR (wM rv (wM (vI ((getL row a.k).1)) (wM (vI ((getL row a.k).1)) (wS (vB true) rfl (Step.cast (congrArg Value.bool (show (((getL row a.k).1 : Int) == ((getL row a.k).1 : Int)) = true by simp)) sP) (wM (vB true) ?_)))))
    refine wM (vB ((getL row a.k).2)) (wM (vB ((getL row a.k).2)) (wS (vB true) rfl (Step.cast (congrArg Value.bool (by simp)) (Step.pure (v := .bool ((((getL row a.k).2) == ((getL row a.k).2)))) (by kernel_rfl))) (wS (vB true) rfl (Step.pick (t := true) rfl rfl) (wA rv (wA (vB true) ?_)))))
    refine WL.nil ?_
    refine W.ret ?_
    refine ⟨.inl rfl, (Value.tuple #[rv, (vB true)]), ?_, ?_⟩
    · exact ⟨rfl, (Res.r2 (show RV _ _ _ (.tmp 6) rv from by exact rfl) (show RV _ _ _ (.tmp 7) (vB true) from by exact rfl))⟩
    replace M := M.tabUp
    have e39 : doesR row a = row := by
     rw [does_get h7p h18p h28p]
    replace M := M.rechunk 0 (c' := tT S tb (doesR row a) (c + 1)) rfl (by rw [e39])
    have e40 : doesR row a = row := by
     rw [does_get h7p h18p h28p]
    have hf41 := Sh.reList e40 (M.shr' 0 rfl)
    refine ⟨rv, S, ?_, M.close [0] rfl (by decide) ⟨hf41, trivial⟩⟩
    rfl
theorem l_asks {G X : Nat → Prop} {w : World} (tb : Nat) (S : Nat → Prop) (row : List THit) (c : Nat) (rv : Value) (k : ByteArray)  (hc : c ≤ 900) (M : Mem G X w [tT S tb row c] [fR rv row] w) : Rets Tryz.prog 20 #[(vP tb), rv, (vS k)] w fun r w' => r = (vB true) ∧ Mem G X w [tT S tb row c] [] w' := by
 refine Rets.enter 97 _ Tryz.func20 rfl Tryz.ntmps20 Tryz.results20 (by simp) ?_
 have hle1 := SlAt.le' (M.rep 0 rfl)
 have sl2 : IsSl rv := SlAt.isSl (Mem.rep M 0 rfl)
 obtain ⟨hup0_, hrc_⟩ := tabC_up (M.chunk 0 rfl).inv
 refine wR (wA (vB false) (WL.nil (wR (wM (vP tb) (wM (vS k) ?_)))))
 have fq := M.frm [tT S tb row c] [] [0] rfl
 refine WL.callX rfl (T_from tb S row c k (by first | assumption | omega) (M.eF fq trivial)) (CallsF.func Tryz.en29 rfl) ?_
 rintro _ w3 ⟨rfl, m⟩
 replace M := M.lF fq m
 clear m
 refine wM (Value.tuple #[(Value.agg #[(vS (((fromL row k).1).key)), (vI (((fromL row k).1).val))]), (vB ((fromL row k).2))]) (wP (Value.agg #[(vS (((fromL row k).1).key)), (vI (((fromL row k).1).val))]) (wP (vB ((fromL row k).2)) ?_))
 refine WL.alloc (c := #[(vS sZ), (vI 0)]) M rfl Tryz.el55.zero rfl (fun b4 w5 hb4 M => ?_)
 refine WL.store (v := (Value.agg #[(vS (((fromL row k).1).key)), (vI (((fromL row k).1).val))])) (cs := [(vS (((fromL row k).1).key)), (vI (((fromL row k).1).val))]) (c' := #[(vS (((fromL row k).1).key)), (vI (((fromL row k).1).val))]) M 0 rfl rfl Tryz.el55.sized rfl rfl rfl rfl (Nat.le_of_ble_eq_true rfl) (cel_cons rfl (cel_cons rfl cel_nil)) rfl rfl (fun w6 M => ?_)
 refine wA (vB ((fromL row k).2)) (WL.nil (wR (wM rv (wM (vS k) ?_))))
 refine WL.callX rfl (r_from rv row k (M.enterW0 ⟨(M.wideR0 0 rfl), trivial⟩)) (CallsF.func Tryz.en41 rfl) ?_
 rintro _ w7 ⟨rfl, m⟩
 replace M := M.leaveW0 m
 clear m
 refine wM (Value.tuple #[(Value.agg #[(vS (((fromL row k).1).key)), (vI (((fromL row k).1).val))]), (vB ((fromL row k).2))]) (wP (Value.agg #[(vS (((fromL row k).1).key)), (vI (((fromL row k).1).val))]) (wP (vB ((fromL row k).2)) ?_))
 refine WL.alloc (c := #[(vS sZ), (vI 0)]) M rfl Tryz.el81.zero rfl (fun b8 w9 hb8 M => ?_)
 refine WL.store (v := (Value.agg #[(vS (((fromL row k).1).key)), (vI (((fromL row k).1).val))])) (cs := [(vS (((fromL row k).1).key)), (vI (((fromL row k).1).val))]) (c' := #[(vS (((fromL row k).1).key)), (vI (((fromL row k).1).val))]) M 0 rfl rfl Tryz.el81.sized rfl rfl rfl rfl (Nat.le_of_ble_eq_true rfl) (cel_cons rfl (cel_cons rfl cel_nil)) rfl rfl (fun w10 M => ?_)
 refine wA (vB ((fromL row k).2)) (WL.nil (wR (wM (vP tb) (wM (vS k) ?_))))
 have fq := M.frm [tT S tb row c] [bk b8 #[(vS (((fromL row k).1).key)), (vI (((fromL row k).1).val))] 81, bk b4 #[(vS (((fromL row k).1).key)), (vI (((fromL row k).1).val))] 55] [2, 0, 1] rfl
 refine WL.callX rfl (T_after tb S row c k (by first | assumption | omega) (M.eF fq trivial)) (CallsF.func Tryz.en42 rfl) ?_
 rintro _ w11 ⟨rfl, m⟩
 replace M := M.lF fq m
 clear m
 refine wM (Value.tuple #[(Value.agg #[(vS (((afterL row k).1).key)), (vI (((afterL row k).1).val))]), (vB ((afterL row k).2))]) (wP (Value.agg #[(vS (((afterL row k).1).key)), (vI (((afterL row k).1).val))]) (wP (vB ((afterL row k).2)) ?_))
 refine WL.alloc (c := #[(vS sZ), (vI 0)]) M rfl Tryz.el55.zero rfl (fun b12 w13 hb12 M => ?_)
 refine WL.store (v := (Value.agg #[(vS (((afterL row k).1).key)), (vI (((afterL row k).1).val))])) (cs := [(vS (((afterL row k).1).key)), (vI (((afterL row k).1).val))]) (c' := #[(vS (((afterL row k).1).key)), (vI (((afterL row k).1).val))]) M 0 rfl rfl Tryz.el55.sized rfl rfl rfl rfl (Nat.le_of_ble_eq_true rfl) (cel_cons rfl (cel_cons rfl cel_nil)) rfl rfl (fun w14 M => ?_)
 refine wA (vB ((afterL row k).2)) (WL.nil (wR (wM rv (wM (vS k) ?_))))
 refine WL.callX rfl (r_after rv row k (M.enterW0 ⟨(M.wideR0 0 rfl), trivial⟩)) (CallsF.func Tryz.en43 rfl) ?_
 rintro _ w15 ⟨rfl, m⟩
 replace M := M.leaveW0 m
 clear m
 refine wM (Value.tuple #[(Value.agg #[(vS (((afterL row k).1).key)), (vI (((afterL row k).1).val))]), (vB ((afterL row k).2))]) (wP (Value.agg #[(vS (((afterL row k).1).key)), (vI (((afterL row k).1).val))]) (wP (vB ((afterL row k).2)) ?_))
 refine WL.alloc (c := #[(vS sZ), (vI 0)]) M rfl Tryz.el81.zero rfl (fun b16 w17 hb16 M => ?_)
 refine WL.store (v := (Value.agg #[(vS (((afterL row k).1).key)), (vI (((afterL row k).1).val))])) (cs := [(vS (((afterL row k).1).key)), (vI (((afterL row k).1).val))]) (c' := #[(vS (((afterL row k).1).key)), (vI (((afterL row k).1).val))]) M 0 rfl rfl Tryz.el81.sized rfl rfl rfl rfl (Nat.le_of_ble_eq_true rfl) (cel_cons rfl (cel_cons rfl cel_nil)) rfl rfl (fun w18 M => ?_)
 refine wA (vB ((afterL row k).2)) (WL.nil (wR (wM (vP tb) (wM (vS k) ?_))))
 have fq := M.frm [tT S tb row c] [bk b16 #[(vS (((afterL row k).1).key)), (vI (((afterL row k).1).val))] 81, bk b12 #[(vS (((afterL row k).1).key)), (vI (((afterL row k).1).val))] 55, bk b8 #[(vS (((fromL row k).1).key)), (vI (((fromL row k).1).val))] 81, bk b4 #[(vS (((fromL row k).1).key)), (vI (((fromL row k).1).val))] 55] [2, 0, 1, 3, 4] rfl
 refine WL.callX rfl (T_upto tb S row c k (by first | assumption | omega) (M.eF fq trivial)) (CallsF.func Tryz.en44 rfl) ?_
 rintro _ w19 ⟨rfl, m⟩
 replace M := M.lF fq m
 clear m
 refine wM (Value.tuple #[(Value.agg #[(vS (((uptoL row k).1).key)), (vI (((uptoL row k).1).val))]), (vB ((uptoL row k).2))]) (wP (Value.agg #[(vS (((uptoL row k).1).key)), (vI (((uptoL row k).1).val))]) (wP (vB ((uptoL row k).2)) ?_))
 refine WL.alloc (c := #[(vS sZ), (vI 0)]) M rfl Tryz.el55.zero rfl (fun b20 w21 hb20 M => ?_)
 refine WL.store (v := (Value.agg #[(vS (((uptoL row k).1).key)), (vI (((uptoL row k).1).val))])) (cs := [(vS (((uptoL row k).1).key)), (vI (((uptoL row k).1).val))]) (c' := #[(vS (((uptoL row k).1).key)), (vI (((uptoL row k).1).val))]) M 0 rfl rfl Tryz.el55.sized rfl rfl rfl rfl (Nat.le_of_ble_eq_true rfl) (cel_cons rfl (cel_cons rfl cel_nil)) rfl rfl (fun w22 M => ?_)
 refine wA (vB ((uptoL row k).2)) (WL.nil (wR (wM rv (wM (vS k) ?_))))
 refine WL.callX rfl (r_upto rv row k (M.enterW0 ⟨(M.wideR0 0 rfl), trivial⟩)) (CallsF.func Tryz.en45 rfl) ?_
 rintro _ w23 ⟨rfl, m⟩
 replace M := M.leaveW0 m
 clear m
 refine wM (Value.tuple #[(Value.agg #[(vS (((uptoL row k).1).key)), (vI (((uptoL row k).1).val))]), (vB ((uptoL row k).2))]) (wP (Value.agg #[(vS (((uptoL row k).1).key)), (vI (((uptoL row k).1).val))]) (wP (vB ((uptoL row k).2)) ?_))
 refine WL.alloc (c := #[(vS sZ), (vI 0)]) M rfl Tryz.el81.zero rfl (fun b24 w25 hb24 M => ?_)
 refine WL.store (v := (Value.agg #[(vS (((uptoL row k).1).key)), (vI (((uptoL row k).1).val))])) (cs := [(vS (((uptoL row k).1).key)), (vI (((uptoL row k).1).val))]) (c' := #[(vS (((uptoL row k).1).key)), (vI (((uptoL row k).1).val))]) M 0 rfl rfl Tryz.el81.sized rfl rfl rfl rfl (Nat.le_of_ble_eq_true rfl) (cel_cons rfl (cel_cons rfl cel_nil)) rfl rfl (fun w26 M => ?_)
 refine wA (vB ((uptoL row k).2)) (WL.nil (wR (wM (vP tb) (wM (vS k) ?_))))
 have fq := M.frm [tT S tb row c] [bk b24 #[(vS (((uptoL row k).1).key)), (vI (((uptoL row k).1).val))] 81, bk b20 #[(vS (((uptoL row k).1).key)), (vI (((uptoL row k).1).val))] 55, bk b16 #[(vS (((afterL row k).1).key)), (vI (((afterL row k).1).val))] 81, bk b12 #[(vS (((afterL row k).1).key)), (vI (((afterL row k).1).val))] 55, bk b8 #[(vS (((fromL row k).1).key)), (vI (((fromL row k).1).val))] 81, bk b4 #[(vS (((fromL row k).1).key)), (vI (((fromL row k).1).val))] 55] [2, 0, 1, 3, 4, 5, 6] rfl
 refine WL.callX rfl (T_before tb S row c k (by first | assumption | omega) (M.eF fq trivial)) (CallsF.func Tryz.en30 rfl) ?_
 rintro _ w27 ⟨rfl, m⟩
 replace M := M.lF fq m
 clear m
 refine wM (Value.tuple #[(Value.agg #[(vS (((beforeL row k).1).key)), (vI (((beforeL row k).1).val))]), (vB ((beforeL row k).2))]) (wP (Value.agg #[(vS (((beforeL row k).1).key)), (vI (((beforeL row k).1).val))]) (wP (vB ((beforeL row k).2)) ?_))
 refine WL.alloc (c := #[(vS sZ), (vI 0)]) M rfl Tryz.el55.zero rfl (fun b28 w29 hb28 M => ?_)
 refine WL.store (v := (Value.agg #[(vS (((beforeL row k).1).key)), (vI (((beforeL row k).1).val))])) (cs := [(vS (((beforeL row k).1).key)), (vI (((beforeL row k).1).val))]) (c' := #[(vS (((beforeL row k).1).key)), (vI (((beforeL row k).1).val))]) M 0 rfl rfl Tryz.el55.sized rfl rfl rfl rfl (Nat.le_of_ble_eq_true rfl) (cel_cons rfl (cel_cons rfl cel_nil)) rfl rfl (fun w30 M => ?_)
 refine wA (vB ((beforeL row k).2)) (WL.nil (wR (wM rv (wM (vS k) ?_))))
 refine WL.callX rfl (r_before rv row k (M.enterW0 ⟨(M.wideR0 0 rfl), trivial⟩)) (CallsF.func Tryz.en46 rfl) ?_
 rintro _ w31 ⟨rfl, m⟩
 replace M := M.leaveW0 m
 clear m
 refine wM (Value.tuple #[(Value.agg #[(vS (((beforeL row k).1).key)), (vI (((beforeL row k).1).val))]), (vB ((beforeL row k).2))]) (wP (Value.agg #[(vS (((beforeL row k).1).key)), (vI (((beforeL row k).1).val))]) (wP (vB ((beforeL row k).2)) ?_))
 refine WL.alloc (c := #[(vS sZ), (vI 0)]) M rfl Tryz.el81.zero rfl (fun b32 w33 hb32 M => ?_)
 refine WL.store (v := (Value.agg #[(vS (((beforeL row k).1).key)), (vI (((beforeL row k).1).val))])) (cs := [(vS (((beforeL row k).1).key)), (vI (((beforeL row k).1).val))]) (c' := #[(vS (((beforeL row k).1).key)), (vI (((beforeL row k).1).val))]) M 0 rfl rfl Tryz.el81.sized rfl rfl rfl rfl (Nat.le_of_ble_eq_true rfl) (cel_cons rfl (cel_cons rfl cel_nil)) rfl rfl (fun w34 M => ?_)
 refine wA (vB ((beforeL row k).2)) (WL.nil (wR (wS (Value.agg #[(vS (((fromL row k).1).key)), (vI (((fromL row k).1).val))]) rfl (Step.loadN Tryz.ag55 rfl (M.blk 8 rfl) (Nat.le_of_ble_eq_true rfl) rfl) (wM (vB ((fromL row k).2)) (wS (Value.agg #[(vS (((fromL row k).1).key)), (vI (((fromL row k).1).val))]) rfl (Step.loadN Tryz.ag81 rfl (M.blk 7 rfl) (Nat.le_of_ble_eq_true rfl) rfl) ?_)))))
 refine wM (vB ((fromL row k).2)) ?_
 refine WL.callX rfl (l_hit1 ((fromL row k).1) ((fromL row k).2) (M.enterW0 trivial)) (CallsF.func Tryz.en39 rfl) ?_
 rintro _ w35 ⟨rfl, m⟩
 replace M := M.leaveW0 m
 clear m
 refine wM (vB true) (wS (Value.agg #[(vS (((afterL row k).1).key)), (vI (((afterL row k).1).val))]) rfl (Step.loadN Tryz.ag55 rfl (M.blk 6 rfl) (Nat.le_of_ble_eq_true rfl) rfl) (wM (vB ((afterL row k).2)) (wS (Value.agg #[(vS (((afterL row k).1).key)), (vI (((afterL row k).1).val))]) rfl (Step.loadN Tryz.ag81 rfl (M.blk 5 rfl) (Nat.le_of_ble_eq_true rfl) rfl) (wM (vB ((afterL row k).2)) ?_))))
 refine WL.callX rfl (l_hit1 ((afterL row k).1) ((afterL row k).2) (M.enterW0 trivial)) (CallsF.func Tryz.en39 rfl) ?_
 rintro _ w36 ⟨rfl, m⟩
 replace M := M.leaveW0 m
 clear m
 refine wS (vB true) rfl (Step.pick (t := true) rfl rfl) (wM (vB true) (wS (Value.agg #[(vS (((uptoL row k).1).key)), (vI (((uptoL row k).1).val))]) rfl (Step.loadN Tryz.ag55 rfl (M.blk 4 rfl) (Nat.le_of_ble_eq_true rfl) rfl) (wM (vB ((uptoL row k).2)) (wS (Value.agg #[(vS (((uptoL row k).1).key)), (vI (((uptoL row k).1).val))]) rfl (Step.loadN Tryz.ag81 rfl (M.blk 3 rfl) (Nat.le_of_ble_eq_true rfl) rfl) (wM (vB ((uptoL row k).2)) ?_)))))
 refine WL.callX rfl (l_hit1 ((uptoL row k).1) ((uptoL row k).2) (M.enterW0 trivial)) (CallsF.func Tryz.en39 rfl) ?_
 rintro _ w37 ⟨rfl, m⟩
 replace M := M.leaveW0 m
 clear m
 refine wS (vB true) rfl (Step.pick (t := true) rfl rfl) (wM (vB true) (wS (Value.agg #[(vS (((beforeL row k).1).key)), (vI (((beforeL row k).1).val))]) rfl (Step.loadN Tryz.ag55 rfl (M.blk 1 rfl) (Nat.le_of_ble_eq_true rfl) rfl) (wM (vB ((beforeL row k).2)) (wS (Value.agg #[(vS (((beforeL row k).1).key)), (vI (((beforeL row k).1).val))]) rfl (Step.loadN Tryz.ag81 rfl (M.blk 0 rfl) (Nat.le_of_ble_eq_true rfl) rfl) (wM (vB ((beforeL row k).2)) ?_)))))
 refine WL.callX rfl (l_hit1 ((beforeL row k).1) ((beforeL row k).2) (M.enterW0 trivial)) (CallsF.func Tryz.en39 rfl) ?_
 rintro _ w38 ⟨rfl, m⟩
 replace M := M.leaveW0 m
 clear m
 refine wS (vB true) rfl (Step.pick (t := true) rfl rfl) (wA (vB true) (WL.nil ?_))
 refine W.ret ?_
 refine ⟨.inl rfl, (vB true), ?_, ?_⟩
 · exact ⟨rfl, (Res.r1 (show RV _ _ _ (.tmp 6) (vB true) from by exact rfl))⟩
 refine ⟨?_, M.close [2] rfl (by decide) trivial⟩
 rfl
theorem l_asks0 {G : Nat → Prop} {w : World} (k : ByteArray)   (M : Mem G (fun _ => False) w [] [] w) : Rets Tryz.prog 20 #[vN, vZ, (vS k)] w fun r w' => r = (vB true) ∧ Mem G (fun _ => False) w [] [] w' := by
 refine Rets.enter 97 _ Tryz.func20 rfl Tryz.ntmps20 Tryz.results20 (by simp) ?_
 refine wR (wA (vB false) (WL.nil (wR (wM vN (wM (vS k) ?_)))))
 refine WL.callX rfl (T_from0 k (M.enterW0 trivial)) (CallsF.func Tryz.en29 rfl) ?_
 rintro _ w1 ⟨rfl, m⟩
 replace M := M.leaveW0 m
 clear m
 refine wM (Value.tuple #[(Value.agg #[(vS sZ), (vI 0)]), (vB false)]) (wP (Value.agg #[(vS sZ), (vI 0)]) (wP (vB false) ?_))
 refine WL.alloc (c := #[(vS sZ), (vI 0)]) M rfl Tryz.el55.zero rfl (fun b2 w3 hb2 M => ?_)
 refine WL.store (v := (Value.agg #[(vS sZ), (vI 0)])) (cs := [(vS sZ), (vI 0)]) (c' := #[(vS sZ), (vI 0)]) M 0 rfl rfl Tryz.el55.sized rfl rfl rfl rfl (Nat.le_of_ble_eq_true rfl) (cel_cons rfl (cel_cons rfl cel_nil)) rfl rfl (fun w4 M => ?_)
 refine wA (vB false) (WL.nil (wR (wM vZ (wM (vS k) ?_))))
 refine WL.callX rfl (r_from vZ ([] : List THit) k (M.enterW0 ⟨(Sh.pure fun w => SlAt.nil 2 w), trivial⟩)) (CallsF.func Tryz.en41 rfl) ?_
 rintro _ w5 ⟨rfl, m⟩
 replace M := M.leaveW0 m
 clear m
 change WL _ _ _ _ _ (Env.put _ _ (Value.tuple #[(Value.agg #[(vS sZ), (vI 0)]), (vB false)])) _
 refine wM (Value.tuple #[(Value.agg #[(vS sZ), (vI 0)]), (vB false)]) (wP (Value.agg #[(vS sZ), (vI 0)]) (wP (vB false) ?_))
 refine WL.alloc (c := #[(vS sZ), (vI 0)]) M rfl Tryz.el81.zero rfl (fun b6 w7 hb6 M => ?_)
 refine WL.store (v := (Value.agg #[(vS sZ), (vI 0)])) (cs := [(vS sZ), (vI 0)]) (c' := #[(vS sZ), (vI 0)]) M 0 rfl rfl Tryz.el81.sized rfl rfl rfl rfl (Nat.le_of_ble_eq_true rfl) (cel_cons rfl (cel_cons rfl cel_nil)) rfl rfl (fun w8 M => ?_)
 refine wA (vB false) (WL.nil (wR (wM vN (wM (vS k) ?_))))
 refine WL.callX rfl (T_after0 k (M.enterW0 trivial)) (CallsF.func Tryz.en42 rfl) ?_
 rintro _ w9 ⟨rfl, m⟩
 replace M := M.leaveW0 m
 clear m
 refine wM (Value.tuple #[(Value.agg #[(vS sZ), (vI 0)]), (vB false)]) (wP (Value.agg #[(vS sZ), (vI 0)]) (wP (vB false) ?_))
 refine WL.alloc (c := #[(vS sZ), (vI 0)]) M rfl Tryz.el55.zero rfl (fun b10 w11 hb10 M => ?_)
 refine WL.store (v := (Value.agg #[(vS sZ), (vI 0)])) (cs := [(vS sZ), (vI 0)]) (c' := #[(vS sZ), (vI 0)]) M 0 rfl rfl Tryz.el55.sized rfl rfl rfl rfl (Nat.le_of_ble_eq_true rfl) (cel_cons rfl (cel_cons rfl cel_nil)) rfl rfl (fun w12 M => ?_)
 refine wA (vB false) (WL.nil (wR (wM vZ (wM (vS k) ?_))))
 refine WL.callX rfl (r_after vZ ([] : List THit) k (M.enterW0 ⟨(Sh.pure fun w => SlAt.nil 2 w), trivial⟩)) (CallsF.func Tryz.en43 rfl) ?_
 rintro _ w13 ⟨rfl, m⟩
 replace M := M.leaveW0 m
 clear m
 change WL _ _ _ _ _ (Env.put _ _ (Value.tuple #[(Value.agg #[(vS sZ), (vI 0)]), (vB false)])) _
 refine wM (Value.tuple #[(Value.agg #[(vS sZ), (vI 0)]), (vB false)]) (wP (Value.agg #[(vS sZ), (vI 0)]) (wP (vB false) ?_))
 refine WL.alloc (c := #[(vS sZ), (vI 0)]) M rfl Tryz.el81.zero rfl (fun b14 w15 hb14 M => ?_)
 refine WL.store (v := (Value.agg #[(vS sZ), (vI 0)])) (cs := [(vS sZ), (vI 0)]) (c' := #[(vS sZ), (vI 0)]) M 0 rfl rfl Tryz.el81.sized rfl rfl rfl rfl (Nat.le_of_ble_eq_true rfl) (cel_cons rfl (cel_cons rfl cel_nil)) rfl rfl (fun w16 M => ?_)
 refine wA (vB false) (WL.nil (wR (wM vN (wM (vS k) ?_))))
 refine WL.callX rfl (T_upto0 k (M.enterW0 trivial)) (CallsF.func Tryz.en44 rfl) ?_
 rintro _ w17 ⟨rfl, m⟩
 replace M := M.leaveW0 m
 clear m
 refine wM (Value.tuple #[(Value.agg #[(vS sZ), (vI 0)]), (vB false)]) (wP (Value.agg #[(vS sZ), (vI 0)]) (wP (vB false) ?_))
 refine WL.alloc (c := #[(vS sZ), (vI 0)]) M rfl Tryz.el55.zero rfl (fun b18 w19 hb18 M => ?_)
 refine WL.store (v := (Value.agg #[(vS sZ), (vI 0)])) (cs := [(vS sZ), (vI 0)]) (c' := #[(vS sZ), (vI 0)]) M 0 rfl rfl Tryz.el55.sized rfl rfl rfl rfl (Nat.le_of_ble_eq_true rfl) (cel_cons rfl (cel_cons rfl cel_nil)) rfl rfl (fun w20 M => ?_)
 refine wA (vB false) (WL.nil (wR (wM vZ (wM (vS k) ?_))))
 refine WL.callX rfl (r_upto vZ ([] : List THit) k (M.enterW0 ⟨(Sh.pure fun w => SlAt.nil 2 w), trivial⟩)) (CallsF.func Tryz.en45 rfl) ?_
 rintro _ w21 ⟨rfl, m⟩
 replace M := M.leaveW0 m
 clear m
 change WL _ _ _ _ _ (Env.put _ _ (Value.tuple #[(Value.agg #[(vS sZ), (vI 0)]), (vB false)])) _
 refine wM (Value.tuple #[(Value.agg #[(vS sZ), (vI 0)]), (vB false)]) (wP (Value.agg #[(vS sZ), (vI 0)]) (wP (vB false) ?_))
 refine WL.alloc (c := #[(vS sZ), (vI 0)]) M rfl Tryz.el81.zero rfl (fun b22 w23 hb22 M => ?_)
 refine WL.store (v := (Value.agg #[(vS sZ), (vI 0)])) (cs := [(vS sZ), (vI 0)]) (c' := #[(vS sZ), (vI 0)]) M 0 rfl rfl Tryz.el81.sized rfl rfl rfl rfl (Nat.le_of_ble_eq_true rfl) (cel_cons rfl (cel_cons rfl cel_nil)) rfl rfl (fun w24 M => ?_)
 refine wA (vB false) (WL.nil (wR (wM vN (wM (vS k) ?_))))
 refine WL.callX rfl (T_before0 k (M.enterW0 trivial)) (CallsF.func Tryz.en30 rfl) ?_
 rintro _ w25 ⟨rfl, m⟩
 replace M := M.leaveW0 m
 clear m
 refine wM (Value.tuple #[(Value.agg #[(vS sZ), (vI 0)]), (vB false)]) (wP (Value.agg #[(vS sZ), (vI 0)]) (wP (vB false) ?_))
 refine WL.alloc (c := #[(vS sZ), (vI 0)]) M rfl Tryz.el55.zero rfl (fun b26 w27 hb26 M => ?_)
 refine WL.store (v := (Value.agg #[(vS sZ), (vI 0)])) (cs := [(vS sZ), (vI 0)]) (c' := #[(vS sZ), (vI 0)]) M 0 rfl rfl Tryz.el55.sized rfl rfl rfl rfl (Nat.le_of_ble_eq_true rfl) (cel_cons rfl (cel_cons rfl cel_nil)) rfl rfl (fun w28 M => ?_)
 refine wA (vB false) (WL.nil (wR (wM vZ (wM (vS k) ?_))))
 refine WL.callX rfl (r_before vZ ([] : List THit) k (M.enterW0 ⟨(Sh.pure fun w => SlAt.nil 2 w), trivial⟩)) (CallsF.func Tryz.en46 rfl) ?_
 rintro _ w29 ⟨rfl, m⟩
 replace M := M.leaveW0 m
 clear m
 change WL _ _ _ _ _ (Env.put _ _ (Value.tuple #[(Value.agg #[(vS sZ), (vI 0)]), (vB false)])) _
 refine wM (Value.tuple #[(Value.agg #[(vS sZ), (vI 0)]), (vB false)]) (wP (Value.agg #[(vS sZ), (vI 0)]) (wP (vB false) ?_))
 refine WL.alloc (c := #[(vS sZ), (vI 0)]) M rfl Tryz.el81.zero rfl (fun b30 w31 hb30 M => ?_)
 refine WL.store (v := (Value.agg #[(vS sZ), (vI 0)])) (cs := [(vS sZ), (vI 0)]) (c' := #[(vS sZ), (vI 0)]) M 0 rfl rfl Tryz.el81.sized rfl rfl rfl rfl (Nat.le_of_ble_eq_true rfl) (cel_cons rfl (cel_cons rfl cel_nil)) rfl rfl (fun w32 M => ?_)
 refine wA (vB false) (WL.nil (wR (wS (Value.agg #[(vS sZ), (vI 0)]) rfl (Step.loadN Tryz.ag55 rfl (M.blk 7 rfl) (Nat.le_of_ble_eq_true rfl) rfl) (wM (vB false) (wS (Value.agg #[(vS sZ), (vI 0)]) rfl (Step.loadN Tryz.ag81 rfl (M.blk 6 rfl) (Nat.le_of_ble_eq_true rfl) rfl) ?_)))))
 refine wM (vB false) ?_
 refine WL.callX rfl (l_hit1 (⟨sZ, 0⟩ : THit) false (M.enterW0 trivial)) (CallsF.func Tryz.en39 rfl) ?_
 rintro _ w33 ⟨rfl, m⟩
 replace M := M.leaveW0 m
 clear m
 refine wM (vB true) (wS (Value.agg #[(vS sZ), (vI 0)]) rfl (Step.loadN Tryz.ag55 rfl (M.blk 5 rfl) (Nat.le_of_ble_eq_true rfl) rfl) (wM (vB false) (wS (Value.agg #[(vS sZ), (vI 0)]) rfl (Step.loadN Tryz.ag81 rfl (M.blk 4 rfl) (Nat.le_of_ble_eq_true rfl) rfl) (wM (vB false) ?_))))
 refine WL.callX rfl (l_hit1 (⟨sZ, 0⟩ : THit) false (M.enterW0 trivial)) (CallsF.func Tryz.en39 rfl) ?_
 rintro _ w34 ⟨rfl, m⟩
 replace M := M.leaveW0 m
 clear m
 refine wS (vB true) rfl (Step.pick (t := true) rfl rfl) (wM (vB true) (wS (Value.agg #[(vS sZ), (vI 0)]) rfl (Step.loadN Tryz.ag55 rfl (M.blk 3 rfl) (Nat.le_of_ble_eq_true rfl) rfl) (wM (vB false) (wS (Value.agg #[(vS sZ), (vI 0)]) rfl (Step.loadN Tryz.ag81 rfl (M.blk 2 rfl) (Nat.le_of_ble_eq_true rfl) rfl) (wM (vB false) ?_)))))
 refine WL.callX rfl (l_hit1 (⟨sZ, 0⟩ : THit) false (M.enterW0 trivial)) (CallsF.func Tryz.en39 rfl) ?_
 rintro _ w35 ⟨rfl, m⟩
 replace M := M.leaveW0 m
 clear m
 refine wS (vB true) rfl (Step.pick (t := true) rfl rfl) (wM (vB true) (wS (Value.agg #[(vS sZ), (vI 0)]) rfl (Step.loadN Tryz.ag55 rfl (M.blk 1 rfl) (Nat.le_of_ble_eq_true rfl) rfl) (wM (vB false) (wS (Value.agg #[(vS sZ), (vI 0)]) rfl (Step.loadN Tryz.ag81 rfl (M.blk 0 rfl) (Nat.le_of_ble_eq_true rfl) rfl) (wM (vB false) ?_)))))
 refine WL.callX rfl (l_hit1 (⟨sZ, 0⟩ : THit) false (M.enterW0 trivial)) (CallsF.func Tryz.en39 rfl) ?_
 rintro _ w36 ⟨rfl, m⟩
 replace M := M.leaveW0 m
 clear m
 refine wS (vB true) rfl (Step.pick (t := true) rfl rfl) (wA (vB true) (WL.nil ?_))
 refine W.ret ?_
 refine ⟨.inl rfl, (vB true), ?_, ?_⟩
 · exact ⟨rfl, (Res.r1 (show RV _ _ _ (.tmp 6) (vB true) from by exact rfl))⟩
 refine ⟨?_, M.close [] rfl (by decide) trivial⟩
 rfl
theorem l_ends {G X : Nat → Prop} {w : World} (tb : Nat) (S : Nat → Prop) (row : List THit) (c : Nat) (rv : Value)  (hc : c ≤ 900) (M : Mem G X w [tT S tb row c] [fR rv row] w) : Rets Tryz.prog 21 #[(vP tb), rv] w fun r w' => r = (vB true) ∧ Mem G X w [tT S tb row c] [] w' := by
 refine Rets.enter 55 _ Tryz.func21 rfl Tryz.ntmps21 Tryz.results21 (by simp) ?_
 have hle1 := SlAt.le' (M.rep 0 rfl)
 have sl2 : IsSl rv := SlAt.isSl (Mem.rep M 0 rfl)
 obtain ⟨hup0_, hrc_⟩ := tabC_up (M.chunk 0 rfl).inv
 refine wR (wA (vB false) (WL.nil (wR (wM (vP tb) ?_))))
 have fq := M.frm [tT S tb row c] [] [0] rfl
 refine WL.callX rfl (T_first tb S row c (by first | assumption | omega) (M.eF fq trivial)) (CallsF.func Tryz.en47 rfl) ?_
 rintro _ w3 ⟨rfl, m⟩
 replace M := M.lF fq m
 clear m
 refine wM (Value.tuple #[(Value.agg #[(vS (((headL row).1).key)), (vI (((headL row).1).val))]), (vB ((headL row).2))]) (wP (Value.agg #[(vS (((headL row).1).key)), (vI (((headL row).1).val))]) (wP (vB ((headL row).2)) ?_))
 refine WL.alloc (c := #[(vS sZ), (vI 0)]) M rfl Tryz.el55.zero rfl (fun b4 w5 hb4 M => ?_)
 refine WL.store (v := (Value.agg #[(vS (((headL row).1).key)), (vI (((headL row).1).val))])) (cs := [(vS (((headL row).1).key)), (vI (((headL row).1).val))]) (c' := #[(vS (((headL row).1).key)), (vI (((headL row).1).val))]) M 0 rfl rfl Tryz.el55.sized rfl rfl rfl rfl (Nat.le_of_ble_eq_true rfl) (cel_cons rfl (cel_cons rfl cel_nil)) rfl rfl (fun w6 M => ?_)
 refine wA (vB ((headL row).2)) (WL.nil (wR (wM (vP tb) ?_)))
 have fq := M.frm [tT S tb row c] [bk b4 #[(vS (((headL row).1).key)), (vI (((headL row).1).val))] 55] [1, 0] rfl
 refine WL.callX rfl (T_last tb S row c (by first | assumption | omega) (M.eF fq trivial)) (CallsF.func Tryz.en48 rfl) ?_
 rintro _ w7 ⟨rfl, m⟩
 replace M := M.lF fq m
 clear m
 refine wM (Value.tuple #[(Value.agg #[(vS (((tailL row).1).key)), (vI (((tailL row).1).val))]), (vB ((tailL row).2))]) (wP (Value.agg #[(vS (((tailL row).1).key)), (vI (((tailL row).1).val))]) (wP (vB ((tailL row).2)) ?_))
 refine WL.alloc (c := #[(vS sZ), (vI 0)]) M rfl Tryz.el55.zero rfl (fun b8 w9 hb8 M => ?_)
 refine WL.store (v := (Value.agg #[(vS (((tailL row).1).key)), (vI (((tailL row).1).val))])) (cs := [(vS (((tailL row).1).key)), (vI (((tailL row).1).val))]) (c' := #[(vS (((tailL row).1).key)), (vI (((tailL row).1).val))]) M 0 rfl rfl Tryz.el55.sized rfl rfl rfl rfl (Nat.le_of_ble_eq_true rfl) (cel_cons rfl (cel_cons rfl cel_nil)) rfl rfl (fun w10 M => ?_)
 refine wA (vB ((tailL row).2)) (WL.nil (W.seq' (wR (wM rv (wS (vI ↑row.length) rfl (Step.lenSl Tryz.un35 rfl (M.rep 0 rfl)) ?_)))))
 refine wP (vB ((↑row.length : Int) == (0 : Int))) (WL.nil ?_)
 refine W.cond (t := (↑row.length : Int) == (0 : Int)) rfl (fun h11 => ?_) (fun h11 => ?_)
 ·
  have h11p : (↑row.length : Int) = (0 : Int) := by simpa using h11
  have hr0_ : row = [] := List.eq_nil_of_length_eq_zero (by omega)
  refine wR (wM (vB ((headL row).2)) (wS (vB true) rfl (Step.cast (congrArg Value.bool (show (!((headL row).2)) = true by rw [hr0_]; decide)) sP) (wM (vB true) (wM (vB ((tailL row).2)) (wS (vB true) rfl (Step.cast (congrArg Value.bool (show (!((tailL row).2)) = true by rw [hr0_]; decide)) sP) ?_)))))
  refine wS (vB true) rfl (Step.pick (t := true) rfl rfl) (wM (vB true) (wS (Value.agg #[(vS (((headL row).1).key)), (vI (((headL row).1).val))]) rfl (Step.loadN Tryz.ag55 rfl (M.blk 2 rfl) (Nat.le_of_ble_eq_true rfl) rfl) (wP (Value.agg #[(vS sZ), (vI 0)]) (wS (vB true) rfl (Step.cast (congrArg Value.bool (show (decide (((headL row).1) = (⟨sZ, 0⟩ : THit))) = true by rw [hr0_]; decide)) (Step.cast (congrArg Value.bool (hit_eqB ((headL row).1) (⟨sZ, 0⟩ : THit))) (Step.eqAgg Tryz.eg55 rfl rfl rfl (Tryz.eq55 9998 (((headL row).1).key) (((headL row).1).val : Int) sZ (0 : Int))))) (wS (vB true) rfl (Step.pick (t := true) rfl rfl) ?_)))))
  refine wM (vB true) (wS (Value.agg #[(vS (((tailL row).1).key)), (vI (((tailL row).1).val))]) rfl (Step.loadN Tryz.ag55 rfl (M.blk 0 rfl) (Nat.le_of_ble_eq_true rfl) rfl) (wP (Value.agg #[(vS sZ), (vI 0)]) (wS (vB true) rfl (Step.cast (congrArg Value.bool (show (decide (((tailL row).1) = (⟨sZ, 0⟩ : THit))) = true by rw [hr0_]; decide)) (Step.cast (congrArg Value.bool (hit_eqB ((tailL row).1) (⟨sZ, 0⟩ : THit))) (Step.eqAgg Tryz.eg55 rfl rfl rfl (Tryz.eq55 9998 (((tailL row).1).key) (((tailL row).1).val : Int) sZ (0 : Int))))) (wS (vB true) rfl (Step.pick (t := true) rfl rfl) (wA (vB true) ?_)))))
  refine WL.nil ?_
  refine W.ret ?_
  refine ⟨.inl rfl, (vB true), ?_, ?_⟩
  · exact ⟨rfl, (Res.r1 (show RV _ _ _ (.tmp 4) (vB true) from by exact rfl))⟩
  refine ⟨?_, M.close [1] rfl (by decide) trivial⟩
  rfl
 ·
  have h11p : ¬ (↑row.length : Int) = (0 : Int) := by simpa using h11
  refine W.skip (W.seq' ?_)
  obtain ⟨cap13, hb12⟩ := SlAt.base (M.rep 0 rfl) (by omega)
  obtain ⟨x14, hx14⟩ := elem_of_lt (xs := row) (i := 0) (by omega)
  obtain ⟨x15, hx15⟩ := elem_of_lt (xs := row) (i := row.length - 1) (by omega)
  refine W.drawn M [0, 1, 2, 3, 4, 5, 6, 7, 8, 9, 10, 11, 12, 13, 14, 15, 16, 17] [5, 15] [] _ _ (sY (sY (sY sE))) (fun _ h => h) Tryz.mixed (by kernel_rfl) ?_
  refine tR (Value.agg #[(vS (((headL row).1).key)), (vI (((headL row).1).val))]) rfl (fun A w M => (Step.loadN Tryz.ag55 rfl (M.blk 3 rfl) (Nat.le_of_ble_eq_true rfl) rfl)) ?_
  refine tP (vB ((headL row).2)) rfl (fun w => (Step.move rfl)) ?_
  refine tP rv rfl (fun w => (Step.move rfl)) ?_
  refine tP (vQ rv 0 2) rfl (fun w => (sX 0 Tryz.un35 Tryz.el81 rfl rfl hb12 rfl)) ?_
  refine tR (Value.agg #[(vS x14.key), (vI x14.val)]) rfl (fun A w M => (Step.loadEN (k := 0) (cs' := [(vS x14.key), (vI x14.val)]) Tryz.ag81 (flat_ec (M.rep 0 rfl) hx14 hitE_len) (by decide) rfl rfl rfl)) ?_
  let Q : List Chunk := [bk b8 #[(vS (((tailL row).1).key)), (vI (((tailL row).1).val))] 55, tT S tb row c, bk b4 #[(vS (((headL row).1).key)), (vI (((headL row).1).val))] 55]
  refine TW.callX (ι := Unit) (fun jx v_ => v_ = (vB ((((headL row).2) == true) && decide (((headL row).1) = x14)))) (fun jx => Q) (fun jx => [fR rv row]) rfl (by decide) rfl (fun jx => (sY (sY (sY sE)))) (fun jx r h => h) (fun A w M => Rets.mono (l_hit2 ((headL row).1) ((headL row).2) x14 true (M.enterW0 trivial)) (fun v_ w_ ⟨e_, m⟩ => ⟨(), e_, (M.leaveW0 m).sel [0, 1, 2, 3] rfl (by decide), fun b hb => M.k0F m b hb⟩)) (fun w => CallsF.func Tryz.en39 rfl) (fun jx v hp hin => ?_)
  replace hp := hp.symm; subst hp
  clear hin
  rw [(show ((((headL row).2) == true) && decide (((headL row).1) = x14)) = true by rw [headL_at hx14]; simp)]
  refine tP (vB true) rfl (fun w => (Step.move rfl)) ?_
  refine tR (Value.agg #[(vS (((tailL row).1).key)), (vI (((tailL row).1).val))]) rfl (fun A w M => (Step.loadN Tryz.ag55 rfl (M.blk 1 rfl) (Nat.le_of_ble_eq_true rfl) rfl)) ?_
  refine tP (vB ((tailL row).2)) rfl (fun w => (Step.move rfl)) ?_
  refine tP rv rfl (fun w => (Step.move rfl)) ?_
  refine tP rv rfl (fun w => (Step.move rfl)) ?_
  refine tR (vI ↑row.length) rfl (fun A w M => (Step.lenSl Tryz.un35 rfl (M.rep 0 rfl))) ?_
  refine tP (vI ((↑row.length : Int) - 1)) rfl (fun w => (Step.sub rfl rfl (wrap_i64 (by omega)))) ?_
  refine tP (vQ rv (row.length - 1) 2) rfl (fun w => (sX (row.length - 1) Tryz.un35 Tryz.el81 rfl rfl hb12)) ?_
  refine tR (Value.agg #[(vS x15.key), (vI x15.val)]) rfl (fun A w M => (Step.loadEN (k := 0) (cs' := [(vS x15.key), (vI x15.val)]) Tryz.ag81 (flat_ec (M.rep 0 rfl) hx15 hitE_len) (by decide) rfl rfl rfl)) ?_
  let Q : List Chunk := [bk b8 #[(vS (((tailL row).1).key)), (vI (((tailL row).1).val))] 55, tT S tb row c, bk b4 #[(vS (((headL row).1).key)), (vI (((headL row).1).val))] 55]
  refine TW.callX (ι := Unit) (fun jx v_ => v_ = (vB ((((tailL row).2) == true) && decide (((tailL row).1) = x15)))) (fun jx => Q) (fun jx => [fR rv row]) rfl (by decide) rfl (fun jx => (sY (sY (sY sE)))) (fun jx r h => h) (fun A w M => Rets.mono (l_hit2 ((tailL row).1) ((tailL row).2) x15 true (M.enterW0 trivial)) (fun v_ w_ ⟨e_, m⟩ => ⟨(), e_, (M.leaveW0 m).sel [0, 1, 2, 3] rfl (by decide), fun b hb => M.k0F m b hb⟩)) (fun w => CallsF.func Tryz.en39 rfl) (fun jx v hp hin => ?_)
  replace hp := hp.symm; subst hp
  clear hin
  rw [(show ((((tailL row).2) == true) && decide (((tailL row).1) = x15)) = true by rw [tailL_at hx15]; simp)]
  refine tP (vB true) rfl (fun w => (Step.pick (t := true) rfl rfl)) ?_
  refine tP (vB true) rfl (fun w => (Step.assign rfl)) ?_
  refine TW.done (fun w16 M => ?_)
  refine W.ret ?_
  refine ⟨.inl rfl, (vB true), ?_, ?_⟩
  · exact ⟨rfl, (Res.r1 (show RV _ _ _ (.tmp 4) (vB true) from by exact rfl))⟩
  refine ⟨?_, M.close [1] rfl (by decide) trivial⟩
  rfl
theorem l_ends0 {G : Nat → Prop} {w : World}    (M : Mem G (fun _ => False) w [] [] w) : Rets Tryz.prog 21 #[vN, vZ] w fun r w' => r = (vB true) ∧ Mem G (fun _ => False) w [] [] w' := by
 refine Rets.enter 55 _ Tryz.func21 rfl Tryz.ntmps21 Tryz.results21 (by simp) ?_
 refine wR (wA (vB false) (WL.nil (wR (wM vN ?_))))
 refine WL.callX rfl (T_first0  (M.enterW0 trivial)) (CallsF.func Tryz.en47 rfl) ?_
 rintro _ w1 ⟨rfl, m⟩
 replace M := M.leaveW0 m
 clear m
 refine wM (Value.tuple #[(Value.agg #[(vS sZ), (vI 0)]), (vB false)]) (wP (Value.agg #[(vS sZ), (vI 0)]) (wP (vB false) ?_))
 refine WL.alloc (c := #[(vS sZ), (vI 0)]) M rfl Tryz.el55.zero rfl (fun b2 w3 hb2 M => ?_)
 refine WL.store (v := (Value.agg #[(vS sZ), (vI 0)])) (cs := [(vS sZ), (vI 0)]) (c' := #[(vS sZ), (vI 0)]) M 0 rfl rfl Tryz.el55.sized rfl rfl rfl rfl (Nat.le_of_ble_eq_true rfl) (cel_cons rfl (cel_cons rfl cel_nil)) rfl rfl (fun w4 M => ?_)
 refine wA (vB false) (WL.nil (wR (wM vN ?_)))
 refine WL.callX rfl (T_last0  (M.enterW0 trivial)) (CallsF.func Tryz.en48 rfl) ?_
 rintro _ w5 ⟨rfl, m⟩
 replace M := M.leaveW0 m
 clear m
 refine wM (Value.tuple #[(Value.agg #[(vS sZ), (vI 0)]), (vB false)]) (wP (Value.agg #[(vS sZ), (vI 0)]) (wP (vB false) ?_))
 refine WL.alloc (c := #[(vS sZ), (vI 0)]) M rfl Tryz.el55.zero rfl (fun b6 w7 hb6 M => ?_)
 refine WL.store (v := (Value.agg #[(vS sZ), (vI 0)])) (cs := [(vS sZ), (vI 0)]) (c' := #[(vS sZ), (vI 0)]) M 0 rfl rfl Tryz.el55.sized rfl rfl rfl rfl (Nat.le_of_ble_eq_true rfl) (cel_cons rfl (cel_cons rfl cel_nil)) rfl rfl (fun w8 M => ?_)
 refine wA (vB false) (WL.nil (W.seq' (wR (wM vZ (wS (vI 0) rfl (Step.lenS Tryz.un35 rfl rfl) ?_)))))
 refine wP (vB true) (WL.nil ?_)
 refine W.cond (t := true) rfl (fun _ => ?_) (fun h => by cases h)
 refine wR (wM (vB false) (wP (vB true) (wM (vB true) (wM (vB false) (wP (vB true) ?_)))))
 refine wS (vB true) rfl (Step.pick (t := true) rfl rfl) (wM (vB true) (wS (Value.agg #[(vS sZ), (vI 0)]) rfl (Step.loadN Tryz.ag55 rfl (M.blk 1 rfl) (Nat.le_of_ble_eq_true rfl) rfl) (wP (Value.agg #[(vS sZ), (vI 0)]) (wS (vB true) rfl (Step.cast (congrArg Value.bool (show ((sZ.toList == sZ.toList) && (((0 : Int) == (0 : Int)) && true)) = true by rw [hit_eqB (⟨sZ, 0⟩ : THit) (⟨sZ, 0⟩ : THit)]; simp)) (Step.eqAgg Tryz.eg55 rfl rfl rfl (Tryz.eq55 9998 sZ (0 : Int) sZ (0 : Int)))) (wS (vB true) rfl (Step.pick (t := true) rfl rfl) ?_)))))
 refine wM (vB true) (wS (Value.agg #[(vS sZ), (vI 0)]) rfl (Step.loadN Tryz.ag55 rfl (M.blk 0 rfl) (Nat.le_of_ble_eq_true rfl) rfl) (wP (Value.agg #[(vS sZ), (vI 0)]) (wS (vB true) rfl (Step.cast (congrArg Value.bool (show ((sZ.toList == sZ.toList) && (((0 : Int) == (0 : Int)) && true)) = true by rw [hit_eqB (⟨sZ, 0⟩ : THit) (⟨sZ, 0⟩ : THit)]; simp)) (Step.eqAgg Tryz.eg55 rfl rfl rfl (Tryz.eq55 9998 sZ (0 : Int) sZ (0 : Int)))) (wS (vB true) rfl (Step.pick (t := true) rfl rfl) (wA (vB true) ?_)))))
 refine WL.nil ?_
 refine W.ret ?_
 refine ⟨.inl rfl, (vB true), ?_, ?_⟩
 · exact ⟨rfl, (Res.r1 (show RV _ _ _ (.tmp 4) (vB true) from by exact rfl))⟩
 refine ⟨?_, M.close [] rfl (by decide) trivial⟩
 rfl
end Go.Proofs
set_option maxRecDepth 100000
namespace Go.Proofs
open Go Tp
theorem Tryz.un5 : Und Tryz.prog 5 (.int .u8) := by unfold Und; kernel_rfl
theorem Tryz.un24 : Und Tryz.prog 24 (.slice 5) := by unfold Und; kernel_rfl
theorem Tryz.en10 : Enters Tryz.prog 10 := fun _ _ => by kernel_rfl
theorem Tryz.en13 : Enters Tryz.prog 13 := fun _ _ => by kernel_rfl
theorem Tryz.en19 : Enters Tryz.prog 19 := fun _ _ => by kernel_rfl
theorem l_works {G : Nat → Prop} {w : World}    (M : Mem G (fun _ => False) w [] [] w) : Rets Tryz.prog 8 #[] w fun r w' => r = (vB true) ∧ Mem G (fun _ => False) w [] [] w' := by
 refine Rets.enter 122 _ Tryz.func8 rfl Tryz.ntmps8 Tryz.results8 (by simp) ?_
 refine wR (wA (vB false) (WL.nil (wR ?_)))
 refine WL.callX rfl (T_new  (M.enterW0 trivial)) (CallsF.func Tryz.en10 rfl) ?_
 rintro _ w3 ⟨tb1, S2, rfl, m⟩
 replace M := M.leaveW0 m
 clear m
 refine wA (vP tb1) (WL.nil (W.seq' (wR (wA (vI 0) (WL.nil ?_)))))
 refine W.block ?_
 replace M := M.rechunk 0 (c' := tT S2 tb1 (rowW 0) 0) rfl (rfl)
 refine W.loop (fun kk ρ w' => ∃ (i_ : Nat) (S_ : Nat → Prop), ((i_ ≤ 5) ∧ kk = 5 - i_) ∧ ρ.has [(0, (vB false)), (1, (vP tb1)), (2, (vI ↑i_))] ∧ Mem G (fun _ => False) w [tT S_ tb1 (rowW i_) i_] []  w') _ ⟨0, _, ⟨(Nat.zero_le _), rfl⟩, ⟨rfl, rfl, rfl, rfl, rfl⟩, M⟩ ?_
 rintro _ ρ5 w4 ⟨i_, S_, ⟨hi6, rfl⟩, hρ, M⟩
 obtain ⟨ρ5, rfl⟩ := hρ.know
 clear hρ
 refine W.seq' (wR (wM (vI ↑i_) (wP (vB (decide ((↑i_ : Int) < (5 : Int)))) (WL.nil ?_))))
 refine W.cond (t := decide ((↑i_ : Int) < (5 : Int))) rfl (fun h7 => ?_) (fun h7 => ?_)
 ·
  have h7p := of_decide_eq_true h7
  refine W.skip (W.seq' (W.block (W.region rfl (wM (vP tb1) (wM (vI ↑i_) ?_)))))
  refine wS (vI (97 + ↑i_)) rfl (Step.add rfl rfl (wrap_i64 (by omega))) (wS (Value.int .u8 (97 + (↑i_ : Int))) rfl (Step.cast (congrArg (Value.int .u8) (wrap_u8 (by omega))) (Step.conv Tryz.un3 Tryz.un5 rfl rfl)) ?_)
  refine WL.new (obj := .cells #[(Value.int .u8 (97 + (↑i_ : Int)))] 5) (fun b => .slice (some ⟨b, 0, none⟩) 1 1) M rfl (fun w => Step.make (by kernel_rfl)) (fun b8 w9 hb8 M => ?_)
  refine wS (vS (strOfNums ([97 + (↑i_ : Int)] : List Int))) rfl (Step.bytesStr [97 + (↑i_ : Int)] Tryz.un24 Tryz.un5 Tryz.un9 rfl (M.blk 0 rfl) rfl rfl) (wM (vI ↑i_) (wS (vI (↑i_ + 1)) rfl (Step.add rfl rfl (wrap_i64 (by omega))) ?_))
  have fq := M.frm [tT S_ tb1 (rowW i_) i_] [bk b8 #[(Value.int .u8 (97 + (↑i_ : Int)))] 5] [1, 0] rfl
  refine WL.callX rfl (T_put tb1 S_ (rowW i_) i_ (strOfNums ([97 + (↑i_ : Int)] : List Int)) (↑i_ + 1) (by first | assumption | omega) (M.eF fq trivial)) (CallsF.func Tryz.en22 rfl) ?_
  rintro _ w11 ⟨S10, rfl, m⟩
  replace M := M.lF fq m
  clear m
  refine WL.nil (W.region rfl (wM (vI ↑i_) (wS (vI (↑i_ + 1)) rfl (Step.add rfl rfl (wrap_i64 (by omega))) (wA (vI (↑i_ + 1)) (WL.nil ?_)))))
  replace M := M.rechunk 0 (c' := tT S10 tb1 (rowW (i_ + 1)) (i_ + 1)) rfl (rfl)
  replace M := M.sel (L' := [tT S10 tb1 (rowW (i_ + 1)) (i_ + 1)]) [0] rfl (by decide)
  exact ⟨_, (by omega), i_ + 1, S10, ⟨(by omega), rfl⟩, ⟨rfl, rfl, rfl, rfl, rfl⟩, M⟩
 ·
  have h7p := of_decide_eq_false h7
  refine W.exit ?_
  refine thn_exit ?_
  refine thn_exit ?_
  refine inBlk_hit ?_
  refine W.seq' ?_
  replace M := M.rechunk 0 (c' := tT S_ tb1 row5 5) rfl (by rw [show i_ = 5 by omega, rowW_5])
  refine W.region rfl (wM (vP tb1) ?_)
  have fq := M.frm [tT S_ tb1 row5 5] [] [0] rfl
  refine WL.callX rfl (T_places tb1 S_ row5 5 (by first | assumption | omega) (M.eF fq trivial)) (CallsF.func Tryz.en12 rfl) ?_
  rintro v12 w16 ⟨_, cs13, N14, ps15, rfl, m⟩
  replace M := M.lF fq m
  clear m
  have sl17 : IsSl v12 := SlAt.isSl (own_slAt (Mem.chunk M 1 rfl).inv)
  have hle18 := SlAt.le' (own_slAt (Mem.chunk M 1 rfl).inv)
  refine wA v12 (WL.nil (W.seq' (W.seq' ?_)))
  obtain ⟨a_, b_, c_, hps_, ha_, hb_, hc_⟩ := plc_five (M.chunk 3 rfl).inv rfl
  replace M := M.rechunk 2 (c' := rowsC 9 N14 0 cs13 ([(⟨1, false, a_⟩ : TPl), ⟨2, true, b_⟩, ⟨2, true, c_⟩])) rfl (by rw [hps_])
  have hcl_ : cs13.length = 3 := rows_len (M.chunk 2 rfl).inv
  refine W.region rfl (wM v12 (wS (vI 3) rfl (Step.cast (congrArg (Value.int .i64) (show (↑cs13.length : Int) = 3 by omega)) (Step.lenSl Tryz.un38 rfl (own_slAt (M.chunk 1 rfl).inv))) (wP (vB false) (wM (vB false) (wM v12 ?_)))))
  obtain ⟨cap20, hb19⟩ := SlAt.base (own_slAt (M.chunk 1 rfl).inv) (by omega)
  obtain ⟨x21, hx21⟩ := elem_of_lt (xs := cs13) (i := 0) (by omega)
  obtain ⟨p0_, hp0_, hd0_, hl0_, hs0_⟩ := rows_at (M.chunk 2 rfl).inv hx21
  obtain rfl : (⟨1, false, a_⟩ : TPl) = p0_ := Option.some.inj hp0_
  replace hd0_ : x21.depth = 1 := hd0_
  replace hl0_ : x21.leaf = false := hl0_
  have hsh0_ := SlAt.shp (hs0_ (Nat.zero_le _))
  refine wS (vQ v12 0 3) rfl (sX 0 Tryz.un38 Tryz.el47 rfl rfl hb19 rfl) (wP (vQ v12 0 3) (wS (vI 1) rfl (Step.cast (congrArg (Value.int .i64) hd0_) (Step.loadE (k := 0) Tryz.sc3 (flat_ec (own_slAt (M.chunk 1 rfl).inv) hx21 plcE_len) (by decide) rfl rfl)) (wP (vB false) (wS (vB false) rfl (Step.pick (t := false) rfl rfl) (wM (vB false) ?_)))))
  refine wM v12 (wS (vQ v12 0 3) rfl (sX 0 Tryz.un38 Tryz.el47 rfl rfl hb19 rfl) (wP (vR v12 0 3 1) (wS (vB false) rfl (Step.cast (congrArg Value.bool hl0_) (Step.loadE (k := 1) Tryz.sc4 (flat_ec (own_slAt (M.chunk 1 rfl).inv) hx21 plcE_len) (by decide) rfl rfl)) (wS (vB false) rfl (Step.pick (t := false) rfl rfl) (wM (vB false) ?_)))))
  refine wM v12 (wS (vQ v12 0 3) rfl (sX 0 Tryz.un38 Tryz.el47 rfl rfl hb19 rfl) (wP (vR v12 0 3 2) (wS x21.kv.1 rfl (Step.loadE (k := 2) Tryz.sc23 (flat_ec (own_slAt (M.chunk 1 rfl).inv) hx21 plcE_len) (by decide) rfl rfl) (wS (vI 1) rfl (Step.cast (congrArg (Value.int .i64) (show (↑a_.length : Int) = 1 by omega)) (Step.lenP Tryz.un23 rfl hsh0_)) (wP (vB false) ?_)))))
  refine wS (vB false) rfl (Step.pick (t := false) rfl rfl) (wM (vB false) (wM v12 ?_))
  obtain ⟨x22, hx22⟩ := elem_of_lt (xs := cs13) (i := 1) (by omega)
  obtain ⟨p1_, hp1_, hd1_, hl1_, hs1_⟩ := rows_at (M.chunk 2 rfl).inv hx22
  obtain rfl : (⟨2, true, b_⟩ : TPl) = p1_ := Option.some.inj hp1_
  replace hd1_ : x22.depth = 2 := hd1_
  replace hl1_ : x22.leaf = true := hl1_
  have hsh1_ := SlAt.shp (hs1_ (Nat.zero_le _))
  refine wS (vQ v12 1 3) rfl (sX 1 Tryz.un38 Tryz.el47 rfl rfl hb19 rfl) (wP (vR v12 1 3 1) (wS (vB true) rfl (Step.cast (congrArg Value.bool hl1_) (Step.loadE (k := 1) Tryz.sc4 (flat_ec (own_slAt (M.chunk 1 rfl).inv) hx22 plcE_len) (by decide) rfl rfl)) (wP (vB false) (wS (vB false) rfl (Step.pick (t := false) rfl rfl) (wM (vB false) ?_)))))
  refine wM v12 (wS (vQ v12 1 3) rfl (sX 1 Tryz.un38 Tryz.el47 rfl rfl hb19 rfl) (wP (vR v12 1 3 2) (wS x22.kv.1 rfl (Step.loadE (k := 2) Tryz.sc23 (flat_ec (own_slAt (M.chunk 1 rfl).inv) hx22 plcE_len) (by decide) rfl rfl) (wS (vI 2) rfl (Step.cast (congrArg (Value.int .i64) (show (↑b_.length : Int) = 2 by omega)) (Step.lenP Tryz.un23 rfl hsh1_)) (wP (vB false) ?_)))))
  refine wS (vB false) rfl (Step.pick (t := false) rfl rfl) (wM (vB false) (wM v12 ?_))
  obtain ⟨x23, hx23⟩ := elem_of_lt (xs := cs13) (i := 2) (by omega)
  obtain ⟨p2_, hp2_, hd2_, hl2_, hs2_⟩ := rows_at (M.chunk 2 rfl).inv hx23
  obtain rfl : (⟨2, true, c_⟩ : TPl) = p2_ := Option.some.inj hp2_
  replace hd2_ : x23.depth = 2 := hd2_
  replace hl2_ : x23.leaf = true := hl2_
  have hsh2_ := SlAt.shp (hs2_ (Nat.zero_le _))
  refine wS (vQ v12 2 3) rfl (sX 2 Tryz.un38 Tryz.el47 rfl rfl hb19 rfl) (wP (vR v12 2 3 1) (wS (vB true) rfl (Step.cast (congrArg Value.bool hl2_) (Step.loadE (k := 1) Tryz.sc4 (flat_ec (own_slAt (M.chunk 1 rfl).inv) hx23 plcE_len) (by decide) rfl rfl)) (wP (vB false) (wS (vB false) rfl (Step.pick (t := false) rfl rfl) (wM (vB false) ?_)))))
  refine wM v12 (wS (vQ v12 2 3) rfl (sX 2 Tryz.un38 Tryz.el47 rfl rfl hb19 rfl) (wP (vR v12 2 3 2) (wS x23.kv.1 rfl (Step.loadE (k := 2) Tryz.sc23 (flat_ec (own_slAt (M.chunk 1 rfl).inv) hx23 plcE_len) (by decide) rfl rfl) (wS (vI 2) rfl (Step.cast (congrArg (Value.int .i64) (show (↑c_.length : Int) = 2 by omega)) (Step.lenP Tryz.un23 rfl hsh2_)) (wP (vB false) ?_)))))
  refine wS (vB false) rfl (Step.pick (t := false) rfl rfl) (WL.nil ?_)
  refine W.cond (t := false) rfl (fun h => by cases h) (fun _ => ?_)
  refine W.skip (W.seq' ?_)
  replace M := M.loseI 1
  refine W.region rfl (wM (vP tb1) ?_)
  have fq := M.frm [tT S_ tb1 row5 5] [rowsC 9 N14 0 cs13 ([(⟨1, false, a_⟩ : TPl), ⟨2, true, b_⟩, ⟨2, true, c_⟩]), propC (PlcP row5 ps15)] [0, 1, 2] rfl
  refine WL.callX rfl (T_from tb1 S_ row5 5 (⟨#[98, 98]⟩ : ByteArray) (by first | assumption | omega) (M.eF fq trivial)) (CallsF.func Tryz.en29 rfl) ?_
  rintro _ w24 ⟨rfl, m⟩
  replace M := M.lF fq m
  clear m
  refine wM (Value.tuple #[(Value.agg #[(vS (((fromL row5 (⟨#[98, 98]⟩ : ByteArray)).1).key)), (vI (((fromL row5 (⟨#[98, 98]⟩ : ByteArray)).1).val))]), (vB ((fromL row5 (⟨#[98, 98]⟩ : ByteArray)).2))]) (wP (Value.agg #[(vS (((fromL row5 (⟨#[98, 98]⟩ : ByteArray)).1).key)), (vI (((fromL row5 (⟨#[98, 98]⟩ : ByteArray)).1).val))]) (wS (vB true) rfl (Step.cast (congrArg Value.bool (show ((fromL row5 (⟨#[98, 98]⟩ : ByteArray)).2) = true by decide +kernel)) sP) ?_))
  refine WL.alloc (c := #[(vS sZ), (vI 0)]) M rfl Tryz.el55.zero rfl (fun b25 w26 hb25 M => ?_)
  refine WL.store (v := (Value.agg #[(vS (((fromL row5 (⟨#[98, 98]⟩ : ByteArray)).1).key)), (vI (((fromL row5 (⟨#[98, 98]⟩ : ByteArray)).1).val))])) (cs := [(vS (((fromL row5 (⟨#[98, 98]⟩ : ByteArray)).1).key)), (vI (((fromL row5 (⟨#[98, 98]⟩ : ByteArray)).1).val))]) (c' := #[(vS (((fromL row5 (⟨#[98, 98]⟩ : ByteArray)).1).key)), (vI (((fromL row5 (⟨#[98, 98]⟩ : ByteArray)).1).val))]) M 0 rfl rfl Tryz.el55.sized rfl rfl rfl rfl (Nat.le_of_ble_eq_true rfl) (cel_cons rfl (cel_cons rfl cel_nil)) rfl rfl (fun w27 M => ?_)
  refine wA (vB true) (WL.nil (wR (wM (vP tb1) ?_)))
  have fq := M.frm [tT S_ tb1 row5 5] [bk b25 #[(vS (((fromL row5 (⟨#[98, 98]⟩ : ByteArray)).1).key)), (vI (((fromL row5 (⟨#[98, 98]⟩ : ByteArray)).1).val))] 55, rowsC 9 N14 0 cs13 ([(⟨1, false, a_⟩ : TPl), ⟨2, true, b_⟩, ⟨2, true, c_⟩]), propC (PlcP row5 ps15)] [1, 0, 2, 3] rfl
  refine WL.callX rfl (T_before tb1 S_ row5 5 (⟨#[97]⟩ : ByteArray) (by first | assumption | omega) (M.eF fq trivial)) (CallsF.func Tryz.en30 rfl) ?_
  rintro _ w28 ⟨rfl, m⟩
  replace M := M.lF fq m
  clear m
  refine wM (Value.tuple #[(Value.agg #[(vS (((beforeL row5 (⟨#[97]⟩ : ByteArray)).1).key)), (vI (((beforeL row5 (⟨#[97]⟩ : ByteArray)).1).val))]), (vB ((beforeL row5 (⟨#[97]⟩ : ByteArray)).2))]) (wP (Value.agg #[(vS (((beforeL row5 (⟨#[97]⟩ : ByteArray)).1).key)), (vI (((beforeL row5 (⟨#[97]⟩ : ByteArray)).1).val))]) (wS (vB false) rfl (Step.cast (congrArg Value.bool (show ((beforeL row5 (⟨#[97]⟩ : ByteArray)).2) = false by decide +kernel)) sP) ?_))
  refine WL.alloc (c := #[(vS sZ), (vI 0)]) M rfl Tryz.el55.zero rfl (fun b29 w30 hb29 M => ?_)
  refine WL.store (v := (Value.agg #[(vS (((beforeL row5 (⟨#[97]⟩ : ByteArray)).1).key)), (vI (((beforeL row5 (⟨#[97]⟩ : ByteArray)).1).val))])) (cs := [(vS (((beforeL row5 (⟨#[97]⟩ : ByteArray)).1).key)), (vI (((beforeL row5 (⟨#[97]⟩ : ByteArray)).1).val))]) (c' := #[(vS (((beforeL row5 (⟨#[97]⟩ : ByteArray)).1).key)), (vI (((beforeL row5 (⟨#[97]⟩ : ByteArray)).1).val))]) M 0 rfl rfl Tryz.el55.sized rfl rfl rfl rfl (Nat.le_of_ble_eq_true rfl) (cel_cons rfl (cel_cons rfl cel_nil)) rfl rfl (fun w31 M => ?_)
  refine wA (vB false) (WL.nil (W.seq' ?_))
  replace M := M.loseI 0
  refine W.region rfl (wM (vP tb1) ?_)
  have fq := M.frm [tT S_ tb1 row5 5] [bk b25 #[(vS (((fromL row5 (⟨#[98, 98]⟩ : ByteArray)).1).key)), (vI (((fromL row5 (⟨#[98, 98]⟩ : ByteArray)).1).val))] 55, rowsC 9 N14 0 cs13 ([(⟨1, false, a_⟩ : TPl), ⟨2, true, b_⟩, ⟨2, true, c_⟩]), propC (PlcP row5 ps15)] [0, 1, 2, 3] rfl
  refine WL.callX rfl (T_delete tb1 S_ row5 5 (⟨#[99]⟩ : ByteArray) (by first | assumption | omega) (M.eF fq trivial)) (CallsF.func Tryz.en25 rfl) ?_
  rintro _ w33 ⟨S32, rfl, m⟩
  replace M := M.lF fq m
  clear m
  refine wM (Value.tuple #[(vI ((getL row5 (⟨#[99]⟩ : ByteArray)).1)), (vB ((getL row5 (⟨#[99]⟩ : ByteArray)).2))]) (wP (vI ((getL row5 (⟨#[99]⟩ : ByteArray)).1)) (wS (vB true) rfl (Step.cast (congrArg Value.bool (show ((getL row5 (⟨#[99]⟩ : ByteArray)).2) = true by decide +kernel)) sP) (wA (vI ((getL row5 (⟨#[99]⟩ : ByteArray)).1)) (wA (vB true) (WL.nil ?_)))))
  refine wR (wM (vB true) (wM (vB true) (wS (Value.agg #[(vS (((fromL row5 (⟨#[98, 98]⟩ : ByteArray)).1).key)), (vI (((fromL row5 (⟨#[98, 98]⟩ : ByteArray)).1).val))]) rfl (Step.loadN Tryz.ag55 rfl (M.blk 1 rfl) (Nat.le_of_ble_eq_true rfl) rfl) (wP (Value.agg #[(vS (⟨#[99]⟩ : ByteArray)), (vI 3)]) (wS (vB true) rfl (Step.cast (congrArg Value.bool (show (decide (((fromL row5 (⟨#[98, 98]⟩ : ByteArray)).1) = (⟨(⟨#[99]⟩ : ByteArray), 3⟩ : THit))) = true by decide +kernel)) (Step.cast (congrArg Value.bool (hit_eqB ((fromL row5 (⟨#[98, 98]⟩ : ByteArray)).1) (⟨(⟨#[99]⟩ : ByteArray), 3⟩ : THit))) (Step.eqAgg Tryz.eg55 rfl rfl rfl (Tryz.eq55 9998 (((fromL row5 (⟨#[98, 98]⟩ : ByteArray)).1).key) (((fromL row5 (⟨#[98, 98]⟩ : ByteArray)).1).val : Int) (⟨#[99]⟩ : ByteArray) (3 : Int))))) ?_)))))
  refine wS (vB true) rfl (Step.pick (t := true) rfl rfl) (wM (vB true) (wM (vB false) (wP (vB true) (wS (vB true) rfl (Step.pick (t := true) rfl rfl) (wM (vB true) ?_)))))
  refine wM (vI ((getL row5 (⟨#[99]⟩ : ByteArray)).1)) (wS (vB true) rfl (Step.cast (congrArg Value.bool (show (((getL row5 (⟨#[99]⟩ : ByteArray)).1 : Int) == (3 : Int)) = true by decide +kernel)) sP) (wS (vB true) rfl (Step.pick (t := true) rfl rfl) (wM (vB true) (wM (vB true) (wS (vB true) rfl (Step.pick (t := true) rfl rfl) ?_)))))
  refine wM (vB true) (wM (vP tb1) ?_)
  have fq := M.frm [tT S32 tb1 (delL row5 (⟨#[99]⟩ : ByteArray)) 5] [bk b25 #[(vS (((fromL row5 (⟨#[98, 98]⟩ : ByteArray)).1).key)), (vI (((fromL row5 (⟨#[98, 98]⟩ : ByteArray)).1).val))] 55, rowsC 9 N14 0 cs13 ([(⟨1, false, a_⟩ : TPl), ⟨2, true, b_⟩, ⟨2, true, c_⟩]), propC (PlcP row5 ps15)] [0, 1, 2, 3] rfl
  refine WL.callX rfl (T_len tb1 S32 (delL row5 (⟨#[99]⟩ : ByteArray)) 5 (M.eF fq trivial)) (CallsF.func Tryz.en19 rfl) ?_
  rintro _ w34 ⟨rfl, m⟩
  replace M := M.lF fq m
  clear m
  refine wS (vB true) rfl (Step.cast (congrArg Value.bool (show ((↑(delL row5 (⟨#[99]⟩ : ByteArray)).length : Int) == (4 : Int)) = true by decide +kernel)) sP) (wS (vB true) rfl (Step.pick (t := true) rfl rfl) (wM (vB true) (wM (vP tb1) ?_)))
  have fq := M.frm [tT S32 tb1 (delL row5 (⟨#[99]⟩ : ByteArray)) 5] [bk b25 #[(vS (((fromL row5 (⟨#[98, 98]⟩ : ByteArray)).1).key)), (vI (((fromL row5 (⟨#[98, 98]⟩ : ByteArray)).1).val))] 55, rowsC 9 N14 0 cs13 ([(⟨1, false, a_⟩ : TPl), ⟨2, true, b_⟩, ⟨2, true, c_⟩]), propC (PlcP row5 ps15)] [0, 1, 2, 3] rfl
  refine WL.callX rfl (T_check tb1 S32 (delL row5 (⟨#[99]⟩ : ByteArray)) 5 (by first | assumption | omega) (M.eF fq trivial)) (CallsF.func Tryz.en13 rfl) ?_
  rintro _ w35 ⟨rfl, m⟩
  replace M := M.lF fq m
  clear m
  refine wP (vB true) (wS (vB true) rfl (Step.pick (t := true) rfl rfl) (wA (vB true) (WL.nil ?_)))
  refine W.ret ?_
  refine ⟨.inl rfl, (vB true), ?_, ?_⟩
  · exact ⟨rfl, (Res.r1 (show RV _ _ _ (.tmp 0) (vB true) from by exact rfl))⟩
  refine ⟨?_, M.close [] rfl (by decide) trivial⟩
  rfl
end Go.Proofs
set_option maxRecDepth 100000
namespace Go.Proofs
open Go Tp
theorem Tryz.ag26 : Aggr Tryz.prog 26 3 := ⟨fun _ => by kernel_rfl, fun _ => by kernel_rfl⟩
theorem Tryz.en8 : Enters Tryz.prog 8 := fun _ _ => by kernel_rfl
theorem Tryz.en9 : Enters Tryz.prog 9 := fun _ _ => by kernel_rfl
theorem Tryz.en11 : Enters Tryz.prog 11 := fun _ _ => by kernel_rfl
theorem Tryz.en17 : Enters Tryz.prog 17 := fun _ _ => by kernel_rfl
theorem Tryz.en20 : Enters Tryz.prog 20 := fun _ _ => by kernel_rfl
theorem Tryz.en21 : Enters Tryz.prog 21 := fun _ _ => by kernel_rfl
theorem law12_none {G : Nat → Prop} {w : World} (k : ByteArray) (v : Int)   (M : Mem G (fun _ => False) w [] [] w) : Rets Tryz.prog 7 #[(vS k), (vI v)] w fun r w' => r = (vB true) ∧ Mem G (fun _ => False) w [] [] w' := by
 refine Rets.enter 82 _ Tryz.func7 rfl Tryz.ntmps7 Tryz.results7 (by simp) ?_
 refine wR (wA (vB false) (WL.nil (wR (wA vN (WL.nil ?_)))))
 refine wR (wM vN (wM (vS k) (wM (vI v) ?_)))
 refine WL.callX rfl (tab_put0 k v (M.enterW0 trivial)) (CallsF.func Tryz.en22 rfl) ?_
 rintro _ w1 ⟨rfl, m⟩
 replace M := M.leaveW0 m
 clear m
 refine wM (Value.tuple #[(vI 0), (vB false)]) (wP (vI 0) (wP (vB false) (wA (vI 0) (wA (vB false) (WL.nil ?_)))))
 refine wR (wM vN (wM (vS k) ?_))
 refine WL.callX rfl (T_get0 k (M.enterW0 trivial)) (CallsF.func Tryz.en28 rfl) ?_
 rintro _ w2 ⟨rfl, m⟩
 replace M := M.leaveW0 m
 clear m
 refine wM (Value.tuple #[(vI 0), (vB false)]) (wP (vI 0) (wP (vB false) (wA (vI 0) (wA (vB false) (WL.nil ?_)))))
 refine wR (wM vN (wM (vS k) ?_))
 refine WL.callX rfl (T_delete0 k (M.enterW0 trivial)) (CallsF.func Tryz.en25 rfl) ?_
 rintro _ w3 ⟨rfl, m⟩
 replace M := M.leaveW0 m
 clear m
 refine wM (Value.tuple #[(vI 0), (vB false)]) (wP (vI 0) (wP (vB false) (wA (vI 0) (wA (vB false) (WL.nil ?_)))))
 refine W.seq' (wR (wM (vI 0) (wP (vB false) (wM (vB false) (wM (vB false) ?_)))))
 refine wS (vB false) rfl (Step.pick (t := false) rfl rfl) (wM (vB false) (wM (vI 0) (wP (vB false) (wS (vB false) rfl (Step.pick (t := false) rfl rfl) (wM (vB false) ?_)))))
 refine wM (vB false) (wS (vB false) rfl (Step.pick (t := false) rfl rfl) (wM (vB false) (wM (vI 0) (wP (vB false) (wS (vB false) rfl (Step.pick (t := false) rfl rfl) ?_)))))
 refine wM (vB false) (wM (vB false) (wS (vB false) rfl (Step.pick (t := false) rfl rfl) (WL.nil ?_)))
 refine W.cond (t := false) rfl (fun h => by cases h) (fun _ => ?_)
 refine W.skip (wR (wM vN ?_))
 refine WL.callX rfl (tab_len0  (M.enterW0 trivial)) (CallsF.func Tryz.en19 rfl) ?_
 rintro _ w4 ⟨rfl, m⟩
 replace M := M.leaveW0 m
 clear m
 refine wP (vB true) (wM (vB true) (wM vN (wM (vS k) ?_)))
 refine WL.callX rfl (l_asks0 k (M.enterW0 trivial)) (CallsF.func Tryz.en20 rfl) ?_
 rintro _ w5 ⟨rfl, m⟩
 replace M := M.leaveW0 m
 clear m
 refine wS (vB true) rfl (Step.pick (t := true) rfl rfl) (wM (vB true) (wM vN ?_))
 refine WL.callX rfl (l_ends0  (M.enterW0 trivial)) (CallsF.func Tryz.en21 rfl) ?_
 rintro _ w6 ⟨rfl, m⟩
 replace M := M.leaveW0 m
 clear m
 refine wS (vB true) rfl (Step.pick (t := true) rfl rfl) (wM (vB true) (wM vN ?_))
 refine WL.callX rfl (tr_alln  (M.enterW0 trivial)) (CallsF.func Tryz.en18 rfl) ?_
 rintro v7 w8 ⟨_, rfl, m⟩
 replace M := M.leaveW0 m
 clear m
 have sl9 : IsSl v7 := SlAt.isSl (own_slAt (Mem.chunk M 0 rfl).inv)
 have hle10 := SlAt.le' (own_slAt (Mem.chunk M 0 rfl).inv)
 refine wS (vI 0) rfl (Step.cast (congrArg (Value.int .i64) (show (↑(([] : List THit).length) : Int) = 0 from rfl)) (Step.lenSl Tryz.un49 rfl (own_slAt (M.chunk 0 rfl).inv))) (wP (vB true) (wS (vB true) rfl (Step.pick (t := true) rfl rfl) (wM (vB true) (wM vN ?_))))
 refine WL.callX rfl (tr_Places0  (M.enterW0 trivial)) (CallsF.func Tryz.en12 rfl) ?_
 rintro _ w11 ⟨rfl, m⟩
 replace M := M.leaveW0 m
 clear m
 refine wS (vI 0) rfl (Step.lenS Tryz.un38 rfl rfl) (wP (vB true) (wS (vB true) rfl (Step.pick (t := true) rfl rfl) (wM (vB true) (wM vN ?_))))
 refine WL.callX rfl (tr_check0  (M.enterW0 trivial)) (CallsF.func Tryz.en13 rfl) ?_
 rintro _ w12 ⟨rfl, m⟩
 replace M := M.leaveW0 m
 clear m
 refine wP (vB true) (wS (vB true) rfl (Step.pick (t := true) rfl rfl) (wM (vB true) ?_))
 refine WL.callX rfl (l_works  (M.enterW0 trivial)) (CallsF.func Tryz.en8 rfl) ?_
 rintro _ w13 ⟨rfl, m⟩
 replace M := M.leaveW0 m
 clear m
 refine wS (vB true) rfl (Step.pick (t := true) rfl rfl) (wA (vB true) (WL.nil ?_))
 refine W.ret ?_
 refine ⟨.inl rfl, (vB true), ?_, ?_⟩
 · exact ⟨rfl, (Res.r1 (show RV _ _ _ (.tmp 4) (vB true) from by exact rfl))⟩
 refine ⟨?_, M.close [] rfl (by decide) trivial⟩
 rfl
theorem law12_plays {G : Nat → Prop} {w : World} (v : Value) (l : List TAct) (k : ByteArray)   (M : Mem G (fun _ => False) w [] [SlAt 3 v l.length (l.flatMap actE)] w) : Rets Tryz.prog 5 #[v, (vS k)] w fun r w' => r = (vB true) ∧ Mem G (fun _ => False) w [] [] w' := by
 refine Rets.enter 95 _ Tryz.func5 rfl Tryz.ntmps5 Tryz.results5 (by simp) ?_
 have hle1 := SlAt.le' (M.rep 0 rfl)
 have sl2 : IsSl v := SlAt.isSl (Mem.rep M 0 rfl)
 refine wR (wA (vB false) (WL.nil (W.seq' (wR (wM v ?_)))))
 refine WL.callX rfl (l_few v l 80 (M.enterW0 ⟨(M.wideR0 0 rfl), trivial⟩)) (CallsF.func Tryz.en9 rfl) ?_
 rintro _ w3 ⟨rfl, m⟩
 replace M := M.leaveW0 m
 clear m
 refine wP (vB (!(fewT l 80))) (wM (vB (!(fewT l 80))) ?_)
 rcases Bool.eq_false_or_eq_true (!(fewT l 80)) with h4 | h4
 ·
  rw [h4]
  refine WL.pass rfl ?_
  refine WL.pass rfl ?_
  refine WL.pass rfl ?_
  refine wS (vB true) rfl (Step.pick (t := true) rfl rfl) (WL.nil ?_)
  refine W.cond (t := true) rfl (fun _ => ?_) (fun h => by cases h)
  refine wR ?_
  refine WL.callX rfl (l_works  (M.enterW0 trivial)) (CallsF.func Tryz.en8 rfl) ?_
  rintro _ w5 ⟨rfl, m⟩
  replace M := M.leaveW0 m
  clear m
  refine wA (vB true) (WL.nil ?_)
  refine W.ret ?_
  refine ⟨.inl rfl, (vB true), ?_, ?_⟩
  · exact ⟨rfl, (Res.r1 (show RV _ _ _ (.tmp 4) (vB true) from by exact rfl))⟩
  refine ⟨?_, M.close [] rfl (by decide) trivial⟩
  rfl
 ·
  have hfw_ := few_fact (show fewT l 80 = true by simpa using h4)
  rw [h4]
  refine wM (vS k) (wS (vI ↑k.size) rfl (Step.lenStr Tryz.un9 rfl) (wP (vB (decide ((↑k.size : Int) > (60 : Int)))) (wS (vB (decide ((↑k.size : Int) > (60 : Int)))) rfl (Step.pick (t := false) rfl rfl) (WL.nil ?_))))
  refine W.cond (t := decide ((↑k.size : Int) > (60 : Int))) rfl (fun h6 => ?_) (fun h6 => ?_)
  ·
   have h6p := of_decide_eq_true h6
   refine wR ?_
   refine WL.callX rfl (l_works  (M.enterW0 trivial)) (CallsF.func Tryz.en8 rfl) ?_
   rintro _ w7 ⟨rfl, m⟩
   replace M := M.leaveW0 m
   clear m
   refine wA (vB true) (WL.nil ?_)
   refine W.ret ?_
   refine ⟨.inl rfl, (vB true), ?_, ?_⟩
   · exact ⟨rfl, (Res.r1 (show RV _ _ _ (.tmp 4) (vB true) from by exact rfl))⟩
   refine ⟨?_, M.close [] rfl (by decide) trivial⟩
   rfl
  ·
   have h6p := of_decide_eq_false h6
   refine W.skip (wR ?_)
   refine WL.callX rfl (T_new  (M.enterW0 trivial)) (CallsF.func Tryz.en10 rfl) ?_
   rintro _ w10 ⟨tb8, S9, rfl, m⟩
   replace M := M.leaveW0 m
   clear m
   refine wA (vP tb8) (WL.nil (wR (wA vZ (WL.nil (W.seq' ?_)))))
   refine wR (wA (vI 0) (WL.nil (W.block ?_)))
   replace M := M.ownNil 81 2
   replace M := M.shareOwn 0 rfl
   replace M : Mem _ _ _ [tT S9 tb8 ([] : List THit) 0] [fR vZ ([] : List THit), SlAt 3 v l.length (l.flatMap actE)] _ := M
   refine W.loop (fun kk ρ w' => ∃ (i_ : Nat) (row_ : List THit) (rv_ : Value) (S_ : Nat → Prop), ((i_ ≤ l.length) ∧ kk = l.length - i_) ∧ ρ.has [(0, v), (1, (vS k)), (5, (vP tb8)), (6, rv_), (7, (vI ↑i_))] ∧ Mem G (fun _ => False) w [tT S_ tb8 row_ i_] [fR rv_ row_, SlAt 3 v l.length (l.flatMap actE)]  w') _ ⟨0, ([] : List THit), _, _, ⟨(Nat.zero_le _), rfl⟩, ⟨rfl, rfl, rfl, rfl, rfl, rfl, rfl⟩, M⟩ ?_
   rintro _ ρ12 w11 ⟨i_, row_, rv_, S_, ⟨hi13, rfl⟩, hρ, M⟩
   obtain ⟨ρ12, rfl⟩ := hρ.know
   clear hρ
   have sl14 : IsSl rv_ := SlAt.isSl (M.rep 0 rfl)
   refine W.seq' (wR (wM (vI ↑i_) (wM v (wS (vI ↑l.length) rfl (Step.lenSl Tryz.un22 rfl (M.rep 1 rfl)) (wP (vB (decide ((↑i_ : Int) < (↑l.length : Int)))) ?_)))))
   refine WL.nil ?_
   refine W.cond (t := decide ((↑i_ : Int) < (↑l.length : Int))) rfl (fun h15 => ?_) (fun h15 => ?_)
   ·
    have h15p := of_decide_eq_true h15
    refine W.skip (W.seq' (W.block (wR (wM (vP tb8) (wM rv_ ?_)))))
    refine wM v (wM (vI ↑i_) ?_)
    obtain ⟨cap17, hb16⟩ := SlAt.base (M.rep 1 rfl) (by omega)
    refine wS (vQ v i_ 3) rfl (sX i_ Tryz.un22 Tryz.el26 rfl rfl hb16) ?_
    obtain ⟨x18, hx18⟩ := elem_of_lt (xs := l) (i := i_) (by omega)
    refine wS (Value.agg #[(vI x18.do_), (vS x18.k), (vI x18.v)]) rfl (Step.loadEN (k := 0) (cs' := [(vI x18.do_), (vS x18.k), (vI x18.v)]) Tryz.ag26 (flat_ec (M.rep 1 rfl) hx18 actE_len) (by decide) rfl rfl rfl) ?_
    have fq := M.frm [tT S_ tb8 row_ i_] [] [0] rfl
    refine WL.callX rfl (l_does tb8 S_ row_ i_ rv_ x18 (by omega) (M.eN fq ⟨(M.shr' 0 rfl), trivial⟩)) (CallsF.func Tryz.en11 rfl) ?_
    rintro _ w21 ⟨rv19, S20, rfl, m⟩
    replace M := M.lN fq m
    clear m
    have sl22 : IsSl rv19 := SlAt.isSl (Mem.rep M 0 rfl)
    have hle23 := SlAt.le' (M.rep 0 rfl)
    refine wM (Value.tuple #[rv19, (vB true)]) (wP rv19 (wP (vB true) (wA rv19 (wA (vB true) (WL.nil ?_)))))
    refine wR (wM rv19 (wA rv19 (WL.nil (W.seq' (wR ?_)))))
    refine wM (vB true) (wP (vB false) (wM (vB false) (wM (vP tb8) ?_)))
    have fq := M.frm [tT S20 tb8 (doesR row_ x18) (i_ + 1)] [] [0] rfl
    refine WL.callX rfl (T_len tb8 S20 (doesR row_ x18) (i_ + 1) (M.eF fq trivial)) (CallsF.func Tryz.en19 rfl) ?_
    rintro _ w24 ⟨rfl, m⟩
    replace M := M.lF fq m
    clear m
    refine wM rv19 (wS (vI (↑((doesR row_ x18).length))) rfl (Step.lenSl Tryz.un35 rfl (M.rep 0 rfl)) (wS (vB false) rfl (Step.cast (congrArg Value.bool (show ((↑(doesR row_ x18).length : Int) != (↑((doesR row_ x18).length) : Int)) = false by simp)) sP) (wS (vB false) rfl (Step.pick (t := false) rfl rfl) (wM (vB false) (wM (vP tb8) ?_)))))
    refine wM rv19 (wM (vS k) ?_)
    have fq := M.frm [tT S20 tb8 (doesR row_ x18) (i_ + 1)] [] [0] rfl
    refine WL.callX rfl (l_asks tb8 S20 (doesR row_ x18) (i_ + 1) rv19 k (by first | assumption | omega) (M.eF fq ⟨(M.rF fq 0 rfl), trivial⟩)) (CallsF.func Tryz.en20 rfl) ?_
    rintro _ w25 ⟨rfl, m⟩
    replace M := M.lF fq m
    clear m
    refine wP (vB false) (wS (vB false) rfl (Step.pick (t := false) rfl rfl) (wM (vB false) (wM (vP tb8) (wM rv19 (wM v ?_)))))
    refine wM (vI ↑i_) (wS (vQ v i_ 3) rfl (sX i_ Tryz.un22 Tryz.el26 rfl rfl hb16) (wP (vR v i_ 3 1) (wS (vS x18.k) rfl (Step.loadE (k := 1) Tryz.sc9 (flat_ec (M.rep 2 rfl) hx18 actE_len) (by decide) rfl rfl) ?_)))
    have fq := M.frm [tT S20 tb8 (doesR row_ x18) (i_ + 1)] [] [0] rfl
    refine WL.callX rfl (l_asks tb8 S20 (doesR row_ x18) (i_ + 1) rv19 x18.k (by first | assumption | omega) (M.eF fq ⟨(M.rF fq 0 rfl), trivial⟩)) (CallsF.func Tryz.en20 rfl) ?_
    rintro _ w26 ⟨rfl, m⟩
    replace M := M.lF fq m
    clear m
    refine wP (vB false) (wS (vB false) rfl (Step.pick (t := false) rfl rfl) (wM (vB false) (wM (vP tb8) (wM rv19 ?_))))
    have fq := M.frm [tT S20 tb8 (doesR row_ x18) (i_ + 1)] [] [0] rfl
    refine WL.callX rfl (l_ends tb8 S20 (doesR row_ x18) (i_ + 1) rv19 (by first | assumption | omega) (M.eF fq ⟨(M.rF fq 0 rfl), trivial⟩)) (CallsF.func Tryz.en21 rfl) ?_
    rintro _ w27 ⟨rfl, m⟩
    replace M := M.lF fq m
    clear m
    refine wP (vB false) (wS (vB false) rfl (Step.pick (t := false) rfl rfl) (WL.nil ?_))
    refine W.cond (t := false) rfl (fun h => by cases h) (fun _ => ?_)
    refine W.skip (wR (wM (vP tb8) ?_))
    have fq := M.frm [tT S20 tb8 (doesR row_ x18) (i_ + 1)] [] [0] rfl
    refine WL.callX rfl (T_all tb8 S20 (doesR row_ x18) (i_ + 1) (by first | assumption | omega) (M.eF fq trivial)) (CallsF.func Tryz.en18 rfl) ?_
    rintro v28 w29 ⟨_, rfl, m⟩
    replace M := M.lF fq m
    clear m
    have sl30 : IsSl v28 := SlAt.isSl (own_slAt (Mem.chunk M 1 rfl).inv)
    have hle31 := SlAt.le' (own_slAt (Mem.chunk M 1 rfl).inv)
    refine wA v28 (WL.nil (W.seq' (wR (wM v28 (wM rv19 ?_)))))
    refine WL.callX rfl (l_same v28 (doesR row_ x18) rv19 (M.enterW0 ⟨((M.wideC0 1 rfl).imp fun _ h => own_slAt h), (M.wideR0 0 rfl), trivial⟩)) (CallsF.func Tryz.en17 rfl) ?_
    rintro _ w32 ⟨rfl, m⟩
    replace M := M.leaveW0 m
    clear m
    refine wP (vB false) (WL.nil ?_)
    refine W.cond (t := false) rfl (fun h => by cases h) (fun _ => ?_)
    refine W.skip (wR (wA (vI 0) (WL.nil (W.block ?_))))
    replace M := M.sel (L' := [oR v28 (doesR row_ x18), tT S20 tb8 (doesR row_ x18) (i_ + 1)]) [1, 0] rfl (by decide)
    refine W.loop (fun kk ρ w' => ∃ (q_ : Nat) (q_s : List THit), ((q_s.length = (doesR row_ x18).length) ∧ (q_ ≤ (doesR row_ x18).length) ∧ kk = (doesR row_ x18).length - q_) ∧ ρ.has [(0, v), (1, (vS k)), (5, (vP tb8)), (6, rv19), (7, (vI ↑i_)), (8, rv19), (9, (vB true)), (10, v28), (11, (vI ↑q_)), (22, (vI ↑i_)), (23, v), (24, (vI ↑l.length)), (25, (vB (decide ((↑i_ : Int) < (↑l.length : Int))))), (28, (Value.tuple #[rv19, (vB true)])), (29, (vP tb8)), (30, rv_), (31, v), (32, (vI ↑i_)), (33, (vQ v i_ 3)), (34, (Value.agg #[(vI x18.do_), (vS x18.k), (vI x18.v)])), (35, (Value.tuple #[rv19, (vB true)])), (36, rv19), (37, (vB true)), (38, rv19), (39, (vB true)), (40, (vB false)), (41, (vB false)), (42, (vP tb8)), (43, (vI (↑(doesR row_ x18).length))), (44, rv19), (45, (vI (↑((doesR row_ x18).length)))), (46, (vB false)), (47, (vB false)), (48, (vB false)), (49, (vP tb8)), (50, rv19), (51, (vS k)), (52, (vB true)), (53, (vB false)), (54, (vB false)), (55, (vB false)), (56, (vP tb8)), (57, rv19), (58, v), (59, (vI ↑i_)), (60, (vQ v i_ 3)), (61, (vR v i_ 3 1)), (62, (vS x18.k)), (63, (vB true)), (64, (vB false)), (65, (vB false)), (66, (vB false)), (67, (vP tb8)), (68, rv19), (69, (vB true)), (70, (vB false)), (71, (vB false)), (72, (vP tb8)), (73, v28), (74, v28), (75, rv19), (76, (vB true)), (77, (vB false))] ∧ Mem G (fun _ => False) w [oR v28 q_s, tT S20 tb8 (doesR row_ x18) (i_ + 1)] [fR rv19 (doesR row_ x18), fR rv_ row_, SlAt 3 v l.length (l.flatMap actE)]  w') _ ⟨0, (doesR row_ x18), ⟨rfl, (Nat.zero_le _), rfl⟩, ⟨rfl, rfl, rfl, rfl, rfl, rfl, rfl, rfl, rfl, rfl, rfl, rfl, rfl, rfl, rfl, rfl, rfl, rfl, rfl, rfl, rfl, rfl, rfl, rfl, rfl, rfl, rfl, rfl, rfl, rfl, rfl, rfl, rfl, rfl, rfl, rfl, rfl, rfl, rfl, rfl, rfl, rfl, rfl, rfl, rfl, rfl, rfl, rfl, rfl, rfl, rfl, rfl, rfl, rfl, rfl, rfl, rfl, rfl, rfl, rfl, rfl, rfl, rfl, rfl, rfl⟩, M⟩ ?_
    rintro _ ρ34 w33 ⟨q_, q_s, ⟨hi35, hi36, rfl⟩, hρ, M⟩
    obtain ⟨ρ34, rfl⟩ := hρ.know
    clear hρ
    refine W.seq' (wR (wM (vI ↑q_) (wM v28 (wS (vI ↑q_s.length) rfl (Step.lenSl Tryz.un49 rfl (own_slAt (M.chunk 0 rfl).inv)) (wP (vB (decide ((↑q_ : Int) < (↑q_s.length : Int)))) ?_)))))
    refine WL.nil ?_
    refine W.cond (t := decide ((↑q_ : Int) < (↑q_s.length : Int))) rfl (fun h37 => ?_) (fun h37 => ?_)
    ·
     have h37p := of_decide_eq_true h37
     refine W.skip (W.seq' (W.block (W.region rfl (wM v28 (wM (vI ↑q_) ?_)))))
     refine wP (Value.agg #[(vS sZ), (vI 0)]) ?_
     obtain ⟨cap39, hb38⟩ := SlAt.base (own_slAt (M.chunk 0 rfl).inv) (by omega)
     refine wS (vQ v28 q_ 2) rfl (sX q_ Tryz.un49 Tryz.el55 rfl rfl hb38) ?_
     refine WL.act rfl (M.storeF hitE_len (⟨sZ, 0⟩ : THit) 0 rfl Tryz.el55.sized rfl rfl rfl (cel_cons rfl (cel_cons rfl cel_nil)) (by first | omega | (simp only [List.length_set]; omega))) ?_
     rintro w40 ⟨M, -⟩
     refine WL.nil (W.region rfl (wM (vI ↑q_) (wS (vI (↑q_ + 1)) rfl (Step.add rfl rfl (wrap_i64 (by omega))) (wA (vI (↑q_ + 1)) (WL.nil ?_)))))
     exact ⟨_, (by omega), q_ + 1, q_s.set q_ (⟨sZ, 0⟩ : THit), ⟨(by rw [List.length_set]; assumption), (by omega), rfl⟩, ⟨rfl, rfl, rfl, rfl, rfl, rfl, rfl, rfl, rfl, rfl, rfl, rfl, rfl, rfl, rfl, rfl, rfl, rfl, rfl, rfl, rfl, rfl, rfl, rfl, rfl, rfl, rfl, rfl, rfl, rfl, rfl, rfl, rfl, rfl, rfl, rfl, rfl, rfl, rfl, rfl, rfl, rfl, rfl, rfl, rfl, rfl, rfl, rfl, rfl, rfl, rfl, rfl, rfl, rfl, rfl, rfl, rfl, rfl, rfl, rfl, rfl, rfl, rfl, rfl, rfl⟩, M⟩
    ·
     have h37p := of_decide_eq_false h37
     refine W.exit ?_
     refine thn_exit ?_
     refine thn_exit ?_
     refine inBlk_hit ?_
     refine W.region rfl (wM (vI ↑i_) (wS (vI (↑i_ + 1)) rfl (Step.add rfl rfl (wrap_i64 (by omega))) (wA (vI (↑i_ + 1)) (WL.nil ?_))))
     replace M := M.sel (L' := [tT S20 tb8 (doesR row_ x18) (i_ + 1)]) [1] rfl (by decide)
     replace M := M.facts (R' := [fR rv19 (doesR row_ x18), SlAt 3 v l.length (l.flatMap actE)]) (Facts.all ⟨M.shr' 0 rfl, M.shr' 2 rfl, trivial⟩)
     exact ⟨_, (by omega), i_ + 1, (doesR row_ x18), rv19, S20, ⟨(by omega), rfl⟩, ⟨rfl, rfl, rfl, rfl, rfl, rfl, rfl⟩, M⟩
   ·
    have h15p := of_decide_eq_false h15
    refine W.exit ?_
    refine thn_exit ?_
    refine thn_exit ?_
    refine inBlk_hit ?_
    refine wR (wM (vP tb8) ?_)
    have fq := M.frm [tT S_ tb8 row_ i_] [] [0] rfl
    refine WL.callX rfl (T_all tb8 S_ row_ i_ (by first | assumption | omega) (M.eF fq trivial)) (CallsF.func Tryz.en18 rfl) ?_
    rintro v41 w42 ⟨_, rfl, m⟩
    replace M := M.lF fq m
    clear m
    have sl43 : IsSl v41 := SlAt.isSl (own_slAt (Mem.chunk M 1 rfl).inv)
    have hle44 := SlAt.le' (own_slAt (Mem.chunk M 1 rfl).inv)
    refine wM rv_ ?_
    refine WL.callX rfl (l_same v41 row_ rv_ (M.enterW0 ⟨((M.wideC0 1 rfl).imp fun _ h => own_slAt h), (M.wideR0 0 rfl), trivial⟩)) (CallsF.func Tryz.en17 rfl) ?_
    rintro _ w45 ⟨rfl, m⟩
    replace M := M.leaveW0 m
    clear m
    refine wM (vB true) ?_
    refine WL.callX rfl (l_works  (M.enterW0 trivial)) (CallsF.func Tryz.en8 rfl) ?_
    rintro _ w46 ⟨rfl, m⟩
    replace M := M.leaveW0 m
    clear m
    refine wS (vB true) rfl (Step.pick (t := true) rfl rfl) (wA (vB true) (WL.nil ?_))
    refine W.ret ?_
    refine ⟨.inl rfl, (vB true), ?_, ?_⟩
    · exact ⟨rfl, (Res.r1 (show RV _ _ _ (.tmp 4) (vB true) from by exact rfl))⟩
    refine ⟨?_, M.close [] rfl (by decide) trivial⟩
    rfl
end Go.Proofs
set_option maxRecDepth 100000
namespace Go.Proofs
open Go Tp
theorem Tryz.en14 : Enters Tryz.prog 14 := fun _ _ => by kernel_rfl
theorem Tryz.en15 : Enters Tryz.prog 15 := fun _ _ => by kernel_rfl
theorem Tryz.en16 : Enters Tryz.prog 16 := fun _ _ => by kernel_rfl
theorem law12_stands {G : Nat → Prop} {w : World} (v : Value) (l : List TAct)   (M : Mem G (fun _ => False) w [] [SlAt 3 v l.length (l.flatMap actE)] w) : Rets Tryz.prog 4 #[v] w fun r w' => r = (vB true) ∧ Mem G (fun _ => False) w [] [] w' := by
 refine Rets.enter 109 _ Tryz.func4 rfl Tryz.ntmps4 Tryz.results4 (by simp) ?_
 have hle1 := SlAt.le' (M.rep 0 rfl)
 have sl2 : IsSl v := SlAt.isSl (Mem.rep M 0 rfl)
 refine wR (wA (vB false) (WL.nil (W.seq' (wR (wM v ?_)))))
 refine WL.callX rfl (l_few v l 200 (M.enterW0 ⟨(M.wideR0 0 rfl), trivial⟩)) (CallsF.func Tryz.en9 rfl) ?_
 rintro _ w3 ⟨rfl, m⟩
 replace M := M.leaveW0 m
 clear m
 refine wP (vB (!(fewT l 200))) (WL.nil ?_)
 refine W.cond (t := !(fewT l 200)) rfl (fun h4 => ?_) (fun h4 => ?_)
 ·
  refine wR ?_
  refine WL.callX rfl (l_works  (M.enterW0 trivial)) (CallsF.func Tryz.en8 rfl) ?_
  rintro _ w5 ⟨rfl, m⟩
  replace M := M.leaveW0 m
  clear m
  refine wA (vB true) (WL.nil ?_)
  refine W.ret ?_
  refine ⟨.inl rfl, (vB true), ?_, ?_⟩
  · exact ⟨rfl, (Res.r1 (show RV _ _ _ (.tmp 2) (vB true) from by exact rfl))⟩
  refine ⟨?_, M.close [] rfl (by decide) trivial⟩
  rfl
 ·
  have hfw_ := few_fact (show fewT l 200 = true by simpa using h4)
  refine W.skip (wR ?_)
  refine WL.callX rfl (T_new  (M.enterW0 trivial)) (CallsF.func Tryz.en10 rfl) ?_
  rintro _ w8 ⟨tb6, S7, rfl, m⟩
  replace M := M.leaveW0 m
  clear m
  refine wA (vP tb6) (WL.nil (wR (wA vZ (WL.nil (W.seq' ?_)))))
  refine wR (wA (vI 0) (WL.nil (W.block ?_)))
  replace M := M.ownNil 81 2
  replace M := M.shareOwn 0 rfl
  replace M : Mem _ _ _ [tT S7 tb6 ([] : List THit) 0] [fR vZ ([] : List THit), SlAt 3 v l.length (l.flatMap actE)] _ := M
  refine W.loop (fun kk ρ w' => ∃ (i_ : Nat) (row_ : List THit) (rv_ : Value) (S_ : Nat → Prop), ((i_ ≤ l.length) ∧ kk = l.length - i_) ∧ ρ.has [(0, v), (3, (vP tb6)), (4, rv_), (5, (vI ↑i_))] ∧ Mem G (fun _ => False) w [tT S_ tb6 row_ i_] [fR rv_ row_, SlAt 3 v l.length (l.flatMap actE)]  w') _ ⟨0, ([] : List THit), _, _, ⟨(Nat.zero_le _), rfl⟩, ⟨rfl, rfl, rfl, rfl, rfl, rfl⟩, M⟩ ?_
  rintro _ ρ10 w9 ⟨i_, row_, rv_, S_, ⟨hi11, rfl⟩, hρ, M⟩
  obtain ⟨ρ10, rfl⟩ := hρ.know
  clear hρ
  have sl12 : IsSl rv_ := SlAt.isSl (M.rep 0 rfl)
  refine W.seq' (wR (wM (vI ↑i_) (wM v (wS (vI ↑l.length) rfl (Step.lenSl Tryz.un22 rfl (M.rep 1 rfl)) (wP (vB (decide ((↑i_ : Int) < (↑l.length : Int)))) ?_)))))
  refine WL.nil ?_
  refine W.cond (t := decide ((↑i_ : Int) < (↑l.length : Int))) rfl (fun h13 => ?_) (fun h13 => ?_)
  ·
   have h13p := of_decide_eq_true h13
   refine W.skip (W.seq' (W.block (wR (wM (vP tb6) (wM rv_ ?_)))))
   refine wM v (wM (vI ↑i_) ?_)
   obtain ⟨cap15, hb14⟩ := SlAt.base (M.rep 1 rfl) (by omega)
   refine wS (vQ v i_ 3) rfl (sX i_ Tryz.un22 Tryz.el26 rfl rfl hb14) ?_
   obtain ⟨x16, hx16⟩ := elem_of_lt (xs := l) (i := i_) (by omega)
   refine wS (Value.agg #[(vI x16.do_), (vS x16.k), (vI x16.v)]) rfl (Step.loadEN (k := 0) (cs' := [(vI x16.do_), (vS x16.k), (vI x16.v)]) Tryz.ag26 (flat_ec (M.rep 1 rfl) hx16 actE_len) (by decide) rfl rfl rfl) ?_
   have fq := M.frm [tT S_ tb6 row_ i_] [] [0] rfl
   refine WL.callX rfl (l_does tb6 S_ row_ i_ rv_ x16 (by omega) (M.eN fq ⟨(M.shr' 0 rfl), trivial⟩)) (CallsF.func Tryz.en11 rfl) ?_
   rintro _ w19 ⟨rv17, S18, rfl, m⟩
   replace M := M.lN fq m
   clear m
   have sl20 : IsSl rv17 := SlAt.isSl (Mem.rep M 0 rfl)
   have hle21 := SlAt.le' (M.rep 0 rfl)
   refine wM (Value.tuple #[rv17, (vB true)]) (wP rv17 (wP (vB true) (wA rv17 (wA (vB true) (WL.nil ?_)))))
   refine wR (wM rv17 (wA rv17 (WL.nil (wR (wM (vP tb6) ?_)))))
   have fq := M.frm [tT S18 tb6 (doesR row_ x16) (i_ + 1)] [] [0] rfl
   refine WL.callX rfl (T_places tb6 S18 (doesR row_ x16) (i_ + 1) (by first | assumption | omega) (M.eF fq trivial)) (CallsF.func Tryz.en12 rfl) ?_
   rintro v22 w26 ⟨_, cs23, N24, ps25, rfl, m⟩
   replace M := M.lF fq m
   clear m
   have sl27 : IsSl v22 := SlAt.isSl (own_slAt (Mem.chunk M 1 rfl).inv)
   have hle28 := SlAt.le' (own_slAt (Mem.chunk M 1 rfl).inv)
   refine wA v22 (WL.nil (W.seq' (W.seq' ?_)))
   have hPP_ := (M.chunk 3 rfl).inv
   obtain ⟨D, hP⟩ := plc_ok hPP_
   have hk4_ := plc_four hP
   have hpl_ := plc_le hPP_
   have hcl_ := rows_len (M.chunk 2 rfl).inv
   obtain ⟨hup_, hrc_⟩ := tabC_up (M.chunk 0 rfl).inv
   have hDr_ := plc_deep hP
   refine W.region rfl (wM (vB true) (wP (vB false) (wM (vB false) (wM (vP tb6) ?_))))
   have fq := M.frm [tT S18 tb6 (doesR row_ x16) (i_ + 1)] [oP v22 cs23, rowsC 9 N24 0 cs23 ps25, propC (PlcP (doesR row_ x16) ps25)] [0, 1, 2, 3] rfl
   refine WL.callX rfl (T_check tb6 S18 (doesR row_ x16) (i_ + 1) (by first | assumption | omega) (M.eF fq trivial)) (CallsF.func Tryz.en13 rfl) ?_
   rintro _ w29 ⟨rfl, m⟩
   replace M := M.lF fq m
   clear m
   refine wP (vB false) (wS (vB false) rfl (Step.pick (t := false) rfl rfl) (wM (vB false) (wM v22 ?_)))
   refine WL.callX rfl (l_places v22 ps25 (by omega) (by assumption) (M.enterW0 ⟨(((M.wideC0 1 rfl).and (M.wideC0 2 rfl)).imp fun _ ⟨h1_, h2_⟩ => rows_rep (own_slAt h1_) h2_), trivial⟩)) (CallsF.func Tryz.en15 rfl) ?_
   rintro v30 w33 ⟨_, cs31, N32, rfl, m⟩
   replace M := M.leaveW0 m
   clear m
   have sl34 : IsSl v30 := SlAt.isSl (own_slAt (Mem.chunk M 0 rfl).inv)
   have hle35 := SlAt.le' (own_slAt (Mem.chunk M 0 rfl).inv)
   refine wM rv17 ?_
   refine WL.callX rfl (l_keys rv17 (doesR row_ x16) (by omega) (M.enter0 ⟨(M.shr' 0 rfl), trivial⟩)) (CallsF.func Tryz.en16 rfl) ?_
   rintro v36 w37 ⟨_, rfl, m⟩
   replace M := M.leave0 m
   clear m
   have sl38 : IsSl v36 := SlAt.isSl (Mem.rep M 0 rfl)
   have hle39 := SlAt.le' (M.rep 0 rfl)
   refine WL.callX rfl (r_right v30 ps25 v36 ((doesR row_ x16).map THit.key) (doesR row_ x16) D (by assumption) (by first | assumption | rfl) (by assumption) (by omega) (by omega) (M.enterW0 ⟨(((M.wideC0 0 rfl).and (M.wideC0 1 rfl)).imp fun _ ⟨h1_, h2_⟩ => rows_rep (own_slAt h1_) h2_), (M.wideR0 0 rfl), trivial⟩)) (CallsF.func Tryz.en14 rfl) ?_
   rintro _ w40 ⟨rfl, m⟩
   replace M := M.leaveW0 m
   clear m
   refine wP (vB false) (wS (vB false) rfl (Step.pick (t := false) rfl rfl) (WL.nil ?_))
   refine W.cond (t := false) rfl (fun h => by cases h) (fun _ => ?_)
   refine W.skip (wR (wA (vI 0) (wA (vI 0) (WL.nil (W.seq' ?_)))))
   refine wR (wA (vI 0) (WL.nil (W.block ?_)))
   replace M := M.sel (L' := [oP v22 cs23, rowsC 9 N24 0 cs23 ps25, tT S18 tb6 (doesR row_ x16) (i_ + 1)]) [3, 4, 2] rfl (by decide)
   replace M := M.facts (R' := [fR rv17 (doesR row_ x16), SlAt 3 v l.length (l.flatMap actE)]) (Facts.all ⟨M.shr' 1 rfl, M.shr' 3 rfl, trivial⟩)
   refine W.loop (fun kk ρ w' => ∃ (n_ : Nat) (dp_ : Int) (N_ : Nat → Prop), ((n_ ≤ cs23.length) ∧ (0 ≤ dp_ ∧ dp_ ≤ (D : Int)) ∧ kk = cs23.length - n_) ∧ ρ.has [(0, v), (3, (vP tb6)), (4, rv17), (5, (vI ↑i_)), (6, rv17), (7, (vB true)), (8, v22), (9, (vI dp_)), (10, (vI 0)), (11, (vI ↑n_)), (19, (vI ↑i_)), (20, v), (21, (vI ↑l.length)), (22, (vB (decide ((↑i_ : Int) < (↑l.length : Int))))), (25, (Value.tuple #[rv17, (vB true)])), (26, (vP tb6)), (27, rv_), (28, v), (29, (vI ↑i_)), (30, (vQ v i_ 3)), (31, (Value.agg #[(vI x16.do_), (vS x16.k), (vI x16.v)])), (32, (Value.tuple #[rv17, (vB true)])), (33, rv17), (34, (vB true)), (35, rv17), (36, (vP tb6)), (37, v22), (38, (vB true)), (39, (vB false)), (40, (vB false)), (41, (vP tb6)), (42, (vI 0)), (43, (vB false)), (44, (vB false)), (45, (vB false)), (46, v22), (47, v30), (48, rv17), (49, v36), (50, (vB true)), (51, (vB false)), (52, (vB false))] ∧ Mem G (fun _ => False) w [oP v22 cs23, rowsC 9 N_ n_ cs23 ps25, tT S18 tb6 (doesR row_ x16) (i_ + 1)] [fR rv17 (doesR row_ x16), SlAt 3 v l.length (l.flatMap actE)]  w') _ ⟨0, 0, _, ⟨(Nat.zero_le _), (by omega), rfl⟩, ⟨rfl, rfl, rfl, rfl, rfl, rfl, rfl, rfl, rfl, rfl, rfl, rfl, rfl, rfl, rfl, rfl, rfl, rfl, rfl, rfl, rfl, rfl, rfl, rfl, rfl, rfl, rfl, rfl, rfl, rfl, rfl, rfl, rfl, rfl, rfl, rfl, rfl, rfl, rfl, rfl, rfl, rfl, rfl, rfl⟩, M⟩ ?_
   rintro _ ρ42 w41 ⟨n_, dp_, N_, ⟨hi43, hi44, rfl⟩, hρ, M⟩
   obtain ⟨ρ42, rfl⟩ := hρ.know
   clear hρ
   obtain ⟨hdp1_, hdp2_⟩ : 0 ≤ dp_ ∧ dp_ ≤ (D : Int) := hi44
   refine W.seq' (wR (wM (vI ↑n_) (wM v22 (wS (vI ↑cs23.length) rfl (Step.lenSl Tryz.un38 rfl (own_slAt (M.chunk 0 rfl).inv)) (wP (vB (decide ((↑n_ : Int) < (↑cs23.length : Int)))) ?_)))))
   refine WL.nil ?_
   refine W.cond (t := decide ((↑n_ : Int) < (↑cs23.length : Int))) rfl (fun h45 => ?_) (fun h45 => ?_)
   ·
    have h45p := of_decide_eq_true h45
    refine W.skip (W.seq' (W.block (wR (wM (vI dp_) (wM v22 ?_)))))
    refine wM (vI ↑n_) ?_
    obtain ⟨cap47, hb46⟩ := SlAt.base (own_slAt (M.chunk 0 rfl).inv) (by omega)
    refine wS (vQ v22 n_ 3) rfl (sX n_ Tryz.un38 Tryz.el47 rfl rfl hb46) (wP (vQ v22 n_ 3) ?_)
    obtain ⟨x48, hx48⟩ := elem_of_lt (xs := cs23) (i := n_) (by omega)
    obtain ⟨p_, hp_, hdp_, hlp_, -⟩ := rows_at (M.chunk 1 rfl).inv hx48
    have hdb_ := hP.deep p_ (List.mem_of_getElem? hp_)
    have hk4p_ := hk4_ p_ (List.mem_of_getElem? hp_)
    refine wS (vI x48.depth) rfl (Step.loadE (k := 0) Tryz.sc3 (flat_ec (own_slAt (M.chunk 0 rfl).inv) hx48 plcE_len) (by decide) rfl rfl) (wS (vI (max (dp_ : Int) (x48.depth : Int))) rfl (Step.maxI rfl rfl) (wA (vI (max (dp_ : Int) (x48.depth : Int))) (WL.nil (W.seq' ?_))))
    replace M := M.sel (L' := [rowsC 9 N_ n_ cs23 ps25, oP v22 cs23, tT S18 tb6 (doesR row_ x16) (i_ + 1)]) [1, 0, 2] rfl (by decide)
    obtain ⟨N2_, M⟩ := M.rowsOut hx48 hp_
    refine W.region rfl (wA (vI 0) (WL.nil (W.block ?_)))
    replace M := M.sel (L' := [oS x48.kv.1 p_.keys, rowsC 9 N2_ (n_ + 1) cs23 ps25, oP v22 cs23, tT S18 tb6 (doesR row_ x16) (i_ + 1)]) [0, 1, 2, 3] rfl (by decide)
    refine W.loop (fun kk ρ w' => ∃ (m_ : Nat) (ks_ : List ByteArray), ((ks_.length = p_.keys.length) ∧ (m_ ≤ p_.keys.length) ∧ kk = p_.keys.length - m_) ∧ ρ.has [(0, v), (3, (vP tb6)), (4, rv17), (5, (vI ↑i_)), (6, rv17), (7, (vB true)), (8, v22), (9, (vI (max (dp_ : Int) (x48.depth : Int)))), (10, (vI 0)), (11, (vI ↑n_)), (12, (vI ↑m_)), (19, (vI ↑i_)), (20, v), (21, (vI ↑l.length)), (22, (vB (decide ((↑i_ : Int) < (↑l.length : Int))))), (25, (Value.tuple #[rv17, (vB true)])), (26, (vP tb6)), (27, rv_), (28, v), (29, (vI ↑i_)), (30, (vQ v i_ 3)), (31, (Value.agg #[(vI x16.do_), (vS x16.k), (vI x16.v)])), (32, (Value.tuple #[rv17, (vB true)])), (33, rv17), (34, (vB true)), (35, rv17), (36, (vP tb6)), (37, v22), (38, (vB true)), (39, (vB false)), (40, (vB false)), (41, (vP tb6)), (42, (vI 0)), (43, (vB false)), (44, (vB false)), (45, (vB false)), (46, v22), (47, v30), (48, rv17), (49, v36), (50, (vB true)), (51, (vB false)), (52, (vB false)), (53, (vI ↑n_)), (54, v22), (55, (vI ↑cs23.length)), (56, (vB (decide ((↑n_ : Int) < (↑cs23.length : Int))))), (59, (vI dp_)), (60, v22), (61, (vI ↑n_)), (62, (vQ v22 n_ 3)), (63, (vQ v22 n_ 3)), (64, (vI x48.depth)), (65, (vI (max (dp_ : Int) (x48.depth : Int))))] ∧ Mem G (fun _ => False) w [oS x48.kv.1 ks_, rowsC 9 N2_ (n_ + 1) cs23 ps25, oP v22 cs23, tT S18 tb6 (doesR row_ x16) (i_ + 1)] [fR rv17 (doesR row_ x16), SlAt 3 v l.length (l.flatMap actE)]  w') _ ⟨0, p_.keys, ⟨rfl, (Nat.zero_le _), rfl⟩, ⟨rfl, rfl, rfl, rfl, rfl, rfl, rfl, rfl, rfl, rfl, rfl, rfl, rfl, rfl, rfl, rfl, rfl, rfl, rfl, rfl, rfl, rfl, rfl, rfl, rfl, rfl, rfl, rfl, rfl, rfl, rfl, rfl, rfl, rfl, rfl, rfl, rfl, rfl, rfl, rfl, rfl, rfl, rfl, rfl, rfl, rfl, rfl, rfl, rfl, rfl, rfl, rfl, rfl, rfl, rfl, rfl⟩, M⟩ ?_
    rintro _ ρ50 w49 ⟨m_, ks_, ⟨hi51, hi52, rfl⟩, hρ, M⟩
    obtain ⟨ρ50, rfl⟩ := hρ.know
    clear hρ
    refine W.seq' (wR (wM (vI ↑m_) (wM v22 (wM (vI ↑n_) (wS (vQ v22 n_ 3) rfl (sX n_ Tryz.un38 Tryz.el47 rfl rfl hb46) ?_)))))
    refine wP (vR v22 n_ 3 2) ?_
    obtain ⟨p_, hp_, hdp_, hlp_, -⟩ := rows_at (M.chunk 1 rfl).inv hx48
    have hdb_ := hP.deep p_ (List.mem_of_getElem? hp_)
    have hk4p_ := hk4_ p_ (List.mem_of_getElem? hp_)
    refine wS x48.kv.1 rfl (Step.loadE (k := 2) Tryz.sc23 (flat_ec (own_slAt (M.chunk 2 rfl).inv) hx48 plcE_len) (by decide) rfl rfl) (wS (vI ↑ks_.length) rfl (Step.lenSl Tryz.un23 rfl (own_slAt (M.chunk 0 rfl).inv)) (wP (vB (decide ((↑m_ : Int) < (↑ks_.length : Int)))) (WL.nil ?_)))
    refine W.cond (t := decide ((↑m_ : Int) < (↑ks_.length : Int))) rfl (fun h53 => ?_) (fun h53 => ?_)
    ·
     have h53p := of_decide_eq_true h53
     refine W.skip (W.seq' (W.block (W.region rfl (wM v22 (wM (vI ↑n_) ?_)))))
     refine wS (vQ v22 n_ 3) rfl (sX n_ Tryz.un38 Tryz.el47 rfl rfl hb46) (wP (vR v22 n_ 3 2) (wS x48.kv.1 rfl (Step.loadE (k := 2) Tryz.sc23 (flat_ec (own_slAt (M.chunk 2 rfl).inv) hx48 plcE_len) (by decide) rfl rfl) (wM (vI ↑m_) ?_)))
     obtain ⟨cap55, hb54⟩ := SlAt.base (own_slAt (M.chunk 0 rfl).inv) (by omega)
     refine wS (vQ x48.kv.1 m_ 1) rfl (sX m_ Tryz.un23 Tryz.el9 rfl rfl hb54) ?_
     refine WL.act rfl (M.storeF strE_len (⟨#[63]⟩ : ByteArray) 0 rfl Tryz.el9.sized rfl rfl rfl (cel_cons rfl cel_nil) (by first | omega | (simp only [List.length_set]; omega))) ?_
     rintro w56 ⟨M, -⟩
     refine WL.nil (W.region rfl (wM (vI ↑m_) (wS (vI (↑m_ + 1)) rfl (Step.add rfl rfl (wrap_i64 (by omega))) (wA (vI (↑m_ + 1)) (WL.nil ?_)))))
     exact ⟨_, (by omega), m_ + 1, ks_.set m_ (⟨#[63]⟩ : ByteArray), ⟨(by rw [List.length_set]; assumption), (by omega), rfl⟩, ⟨rfl, rfl, rfl, rfl, rfl, rfl, rfl, rfl, rfl, rfl, rfl, rfl, rfl, rfl, rfl, rfl, rfl, rfl, rfl, rfl, rfl, rfl, rfl, rfl, rfl, rfl, rfl, rfl, rfl, rfl, rfl, rfl, rfl, rfl, rfl, rfl, rfl, rfl, rfl, rfl, rfl, rfl, rfl, rfl, rfl, rfl, rfl, rfl, rfl, rfl, rfl, rfl, rfl, rfl, rfl, rfl⟩, M⟩
    ·
     have h53p := of_decide_eq_false h53
     refine W.exit ?_
     refine thn_exit ?_
     refine thn_exit ?_
     refine inBlk_hit ?_
     refine W.region rfl (wM (vI ↑n_) (wS (vI (↑n_ + 1)) rfl (Step.add rfl rfl (wrap_i64 (by omega))) (wA (vI (↑n_ + 1)) (WL.nil ?_))))
     replace M := M.sel (L' := [oP v22 cs23, rowsC 9 N2_ (n_ + 1) cs23 ps25, tT S18 tb6 (doesR row_ x16) (i_ + 1)]) [2, 1, 3] rfl (by decide)
     exact ⟨_, (by omega), n_ + 1, (max (dp_ : Int) (x48.depth : Int)), N2_, ⟨(by omega), (by omega), rfl⟩, ⟨rfl, rfl, rfl, rfl, rfl, rfl, rfl, rfl, rfl, rfl, rfl, rfl, rfl, rfl, rfl, rfl, rfl, rfl, rfl, rfl, rfl, rfl, rfl, rfl, rfl, rfl, rfl, rfl, rfl, rfl, rfl, rfl, rfl, rfl, rfl, rfl, rfl, rfl, rfl, rfl, rfl, rfl, rfl, rfl⟩, M⟩
   ·
    have h45p := of_decide_eq_false h45
    refine W.exit ?_
    refine thn_exit ?_
    refine thn_exit ?_
    refine inBlk_hit ?_
    refine W.seq' (wR (wM (vI dp_) (wP (vB (decide ((dp_ : Int) > (0 : Int)))) (WL.nil ?_))))
    refine W.cond (t := decide ((dp_ : Int) > (0 : Int))) rfl (fun h57 => ?_) (fun h57 => ?_)
    ·
     have h57p := of_decide_eq_true h57
     refine W.region rfl (wA (vI 1) (WL.nil (W.seq' (wR (wA (vI 1) ?_)))))
     refine WL.nil (W.block ?_)
     refine W.loop (fun kk ρ w' => ∃ (e_ : Nat), ((1 ≤ e_) ∧ (e_ ≤ D) ∧ kk = D - e_) ∧ ρ.has [(0, v), (3, (vP tb6)), (4, rv17), (5, (vI ↑i_)), (6, rv17), (7, (vB true)), (8, v22), (9, (vI dp_)), (10, (vI (↑(leastK e_)))), (11, (vI ↑n_)), (13, (vI ↑e_)), (19, (vI ↑i_)), (20, v), (21, (vI ↑l.length)), (22, (vB (decide ((↑i_ : Int) < (↑l.length : Int))))), (25, (Value.tuple #[rv17, (vB true)])), (26, (vP tb6)), (27, rv_), (28, v), (29, (vI ↑i_)), (30, (vQ v i_ 3)), (31, (Value.agg #[(vI x16.do_), (vS x16.k), (vI x16.v)])), (32, (Value.tuple #[rv17, (vB true)])), (33, rv17), (34, (vB true)), (35, rv17), (36, (vP tb6)), (37, v22), (38, (vB true)), (39, (vB false)), (40, (vB false)), (41, (vP tb6)), (42, (vI 0)), (43, (vB false)), (44, (vB false)), (45, (vB false)), (46, v22), (47, v30), (48, rv17), (49, v36), (50, (vB true)), (51, (vB false)), (52, (vB false)), (53, (vI ↑n_)), (54, v22), (55, (vI ↑cs23.length)), (56, (vB (decide ((↑n_ : Int) < (↑cs23.length : Int))))), (83, (vI dp_)), (84, (vB (decide ((dp_ : Int) > (0 : Int)))))] ∧ Mem G (fun _ => False) w [oP v22 cs23, rowsC 9 N_ n_ cs23 ps25, tT S18 tb6 (doesR row_ x16) (i_ + 1)] [fR rv17 (doesR row_ x16), SlAt 3 v l.length (l.flatMap actE)]  w') _ ⟨1, ⟨(Nat.le_refl _), (by omega), rfl⟩, ⟨rfl, rfl, rfl, rfl, rfl, rfl, rfl, rfl, rfl, rfl, rfl, rfl, rfl, rfl, rfl, rfl, rfl, rfl, rfl, rfl, rfl, rfl, rfl, rfl, rfl, rfl, rfl, rfl, rfl, rfl, rfl, rfl, rfl, rfl, rfl, rfl, rfl, rfl, rfl, rfl, rfl, rfl, rfl, rfl, rfl, rfl, rfl, rfl, rfl, rfl, rfl⟩, M⟩ ?_
     rintro _ ρ59 w58 ⟨e_, ⟨hi60, hi61, rfl⟩, hρ, M⟩
     obtain ⟨ρ59, rfl⟩ := hρ.know
     clear hρ
     have hlk_ := leastK_mono (n := e_ + 1) (m := D + 1) (by omega)
     have hlm_ := leastK_mono (n := e_) (m := D) (by omega)
     have hll_ := hP.least
     have hls_ := leastK_step (n := e_) (by omega)
     refine W.seq' (wR (wM (vI ↑e_) (wM (vI dp_) (wP (vB (decide ((↑e_ : Int) < (dp_ : Int)))) (WL.nil ?_)))))
     refine W.cond (t := decide ((↑e_ : Int) < (dp_ : Int))) rfl (fun h62 => ?_) (fun h62 => ?_)
     ·
      have h62p := of_decide_eq_true h62
      refine W.skip (W.seq' (W.block (W.region rfl (wM (vI (↑(leastK e_))) (wS (vI (3 * (↑(leastK e_)))) rfl (Step.mul rfl rfl (wrap_i64 (by omega))) ?_)))))
      refine wS (vI (↑(leastK (e_ + 1)))) rfl (Step.cast (congrArg (Value.int .i64) (show (3 * (↑(leastK e_)) + 2 : Int) = ↑(leastK (e_ + 1)) by omega)) (Step.add rfl rfl (wrap_i64 (by omega)))) (wA (vI (↑(leastK (e_ + 1)))) (WL.nil (W.region rfl (wM (vI ↑e_) (wS (vI (↑e_ + 1)) rfl (Step.add rfl rfl (wrap_i64 (by omega))) ?_)))))
      refine wA (vI (↑e_ + 1)) (WL.nil ?_)
      exact ⟨_, (by omega), e_ + 1, ⟨(by omega), (by omega), rfl⟩, ⟨rfl, rfl, rfl, rfl, rfl, rfl, rfl, rfl, rfl, rfl, rfl, rfl, rfl, rfl, rfl, rfl, rfl, rfl, rfl, rfl, rfl, rfl, rfl, rfl, rfl, rfl, rfl, rfl, rfl, rfl, rfl, rfl, rfl, rfl, rfl, rfl, rfl, rfl, rfl, rfl, rfl, rfl, rfl, rfl, rfl, rfl, rfl, rfl, rfl, rfl, rfl⟩, M⟩
     ·
      have h62p := of_decide_eq_false h62
      refine W.exit ?_
      refine thn_exit ?_
      refine thn_exit ?_
      refine inBlk_hit ?_
      refine wR (wM rv17 (wS (vI (↑((doesR row_ x16).length))) rfl (Step.lenSl Tryz.un35 rfl (M.rep 0 rfl)) (wM (vI (↑(leastK e_))) (wP (vB (decide ((↑((doesR row_ x16).length) : Int) < (↑(leastK e_) : Int)))) (WL.nil ?_)))))
      refine W.cond (t := decide ((↑((doesR row_ x16).length) : Int) < (↑(leastK e_) : Int))) rfl (fun h63 => ?_) (fun h63 => ?_)
      ·
       have h63p := of_decide_eq_true h63
       omega
      ·
       have h63p := of_decide_eq_false h63
       refine W.skip (W.region rfl (wM (vI ↑i_) (wS (vI (↑i_ + 1)) rfl (Step.add rfl rfl (wrap_i64 (by omega))) (wA (vI (↑i_ + 1)) (WL.nil ?_)))))
       replace M := M.sel (L' := [tT S18 tb6 (doesR row_ x16) (i_ + 1)]) [2] rfl (by decide)
       exact ⟨_, (by omega), i_ + 1, (doesR row_ x16), rv17, S18, ⟨(by omega), rfl⟩, ⟨rfl, rfl, rfl, rfl, rfl, rfl⟩, M⟩
    ·
     have h57p := of_decide_eq_false h57
     refine W.skip (W.seq' (wR (wA (vI 1) (WL.nil (W.block ?_)))))
     refine W.loop (fun kk ρ w' => (kk = 0) ∧ ρ.has [(0, v), (3, (vP tb6)), (4, rv17), (5, (vI ↑i_)), (6, rv17), (7, (vB true)), (8, v22), (9, (vI dp_)), (10, (vI 0)), (11, (vI ↑n_)), (13, (vI 1)), (19, (vI ↑i_)), (20, v), (21, (vI ↑l.length)), (22, (vB (decide ((↑i_ : Int) < (↑l.length : Int))))), (25, (Value.tuple #[rv17, (vB true)])), (26, (vP tb6)), (27, rv_), (28, v), (29, (vI ↑i_)), (30, (vQ v i_ 3)), (31, (Value.agg #[(vI x16.do_), (vS x16.k), (vI x16.v)])), (32, (Value.tuple #[rv17, (vB true)])), (33, rv17), (34, (vB true)), (35, rv17), (36, (vP tb6)), (37, v22), (38, (vB true)), (39, (vB false)), (40, (vB false)), (41, (vP tb6)), (42, (vI 0)), (43, (vB false)), (44, (vB false)), (45, (vB false)), (46, v22), (47, v30), (48, rv17), (49, v36), (50, (vB true)), (51, (vB false)), (52, (vB false)), (53, (vI ↑n_)), (54, v22), (55, (vI ↑cs23.length)), (56, (vB (decide ((↑n_ : Int) < (↑cs23.length : Int))))), (83, (vI dp_)), (84, (vB (decide ((dp_ : Int) > (0 : Int)))))] ∧ Mem G (fun _ => False) w [oP v22 cs23, rowsC 9 N_ n_ cs23 ps25, tT S18 tb6 (doesR row_ x16) (i_ + 1)] [fR rv17 (doesR row_ x16), SlAt 3 v l.length (l.flatMap actE)]  w') _ ⟨rfl, ⟨rfl, rfl, rfl, rfl, rfl, rfl, rfl, rfl, rfl, rfl, rfl, rfl, rfl, rfl, rfl, rfl, rfl, rfl, rfl, rfl, rfl, rfl, rfl, rfl, rfl, rfl, rfl, rfl, rfl, rfl, rfl, rfl, rfl, rfl, rfl, rfl, rfl, rfl, rfl, rfl, rfl, rfl, rfl, rfl, rfl, rfl, rfl, rfl, rfl, rfl, rfl⟩, M⟩ ?_
     rintro _ ρ65 w64 ⟨rfl, hρ, M⟩
     obtain ⟨ρ65, rfl⟩ := hρ.know
     clear hρ
     refine W.seq' (wR (wM (vI 1) (wM (vI dp_) (wP (vB (decide ((1 : Int) < (dp_ : Int)))) (WL.nil ?_)))))
     refine W.cond (t := decide ((1 : Int) < (dp_ : Int))) rfl (fun h66 => ?_) (fun h66 => ?_)
     ·
      have h66p := of_decide_eq_true h66
      omega
     ·
      have h66p := of_decide_eq_false h66
      refine W.exit ?_
      refine thn_exit ?_
      refine thn_exit ?_
      refine inBlk_hit ?_
      refine wR (wM rv17 (wS (vI (↑((doesR row_ x16).length))) rfl (Step.lenSl Tryz.un35 rfl (M.rep 0 rfl)) (wM (vI 0) (wP (vB (decide ((↑((doesR row_ x16).length) : Int) < (0 : Int)))) (WL.nil ?_)))))
      refine W.cond (t := decide ((↑((doesR row_ x16).length) : Int) < (0 : Int))) rfl (fun h67 => ?_) (fun h67 => ?_)
      ·
       have h67p := of_decide_eq_true h67
       omega
      ·
       have h67p := of_decide_eq_false h67
       refine W.skip (W.region rfl (wM (vI ↑i_) (wS (vI (↑i_ + 1)) rfl (Step.add rfl rfl (wrap_i64 (by omega))) (wA (vI (↑i_ + 1)) (WL.nil ?_)))))
       replace M := M.sel (L' := [tT S18 tb6 (doesR row_ x16) (i_ + 1)]) [2] rfl (by decide)
       exact ⟨_, (by omega), i_ + 1, (doesR row_ x16), rv17, S18, ⟨(by omega), rfl⟩, ⟨rfl, rfl, rfl, rfl, rfl, rfl⟩, M⟩
  ·
   have h13p := of_decide_eq_false h13
   refine W.exit ?_
   refine thn_exit ?_
   refine thn_exit ?_
   refine inBlk_hit ?_
   refine wR (wM (vP tb6) ?_)
   have fq := M.frm [tT S_ tb6 row_ i_] [] [0] rfl
   refine WL.callX rfl (T_check tb6 S_ row_ i_ (by first | assumption | omega) (M.eF fq trivial)) (CallsF.func Tryz.en13 rfl) ?_
   rintro _ w68 ⟨rfl, m⟩
   replace M := M.lF fq m
   clear m
   refine wP (vB true) (wM (vB true) (wM (vP tb6) ?_))
   have fq := M.frm [tT S_ tb6 row_ i_] [] [0] rfl
   refine WL.callX rfl (T_all tb6 S_ row_ i_ (by first | assumption | omega) (M.eF fq trivial)) (CallsF.func Tryz.en18 rfl) ?_
   rintro v69 w70 ⟨_, rfl, m⟩
   replace M := M.lF fq m
   clear m
   have sl71 : IsSl v69 := SlAt.isSl (own_slAt (Mem.chunk M 1 rfl).inv)
   have hle72 := SlAt.le' (own_slAt (Mem.chunk M 1 rfl).inv)
   refine wM rv_ ?_
   refine WL.callX rfl (l_same v69 row_ rv_ (M.enterW0 ⟨((M.wideC0 1 rfl).imp fun _ h => own_slAt h), (M.wideR0 0 rfl), trivial⟩)) (CallsF.func Tryz.en17 rfl) ?_
   rintro _ w73 ⟨rfl, m⟩
   replace M := M.leaveW0 m
   clear m
   refine wS (vB true) rfl (Step.pick (t := true) rfl rfl) (wM (vB true) ?_)
   refine WL.callX rfl (l_works  (M.enterW0 trivial)) (CallsF.func Tryz.en8 rfl) ?_
   rintro _ w74 ⟨rfl, m⟩
   replace M := M.leaveW0 m
   clear m
   refine wS (vB true) rfl (Step.pick (t := true) rfl rfl) (wA (vB true) (WL.nil ?_))
   refine W.ret ?_
   refine ⟨.inl rfl, (vB true), ?_, ?_⟩
   · exact ⟨rfl, (Res.r1 (show RV _ _ _ (.tmp 2) (vB true) from by exact rfl))⟩
   refine ⟨?_, M.close [] rfl (by decide) trivial⟩
   rfl
end Go.Proofs
set_option maxRecDepth 100000
namespace Go.Proofs
open Go Tp
theorem law12_empties {G : Nat → Prop} {w : World} (v : Value) (l : List ByteArray) (by_ : Int)   (M : Mem G (fun _ => False) w [] [fS v l] w) : Rets Tryz.prog 6 #[v, (vI by_)] w fun r w' => r = (vB true) ∧ Mem G (fun _ => False) w [] [] w' := by
 refine Rets.enter 125 _ Tryz.func6 rfl Tryz.ntmps6 Tryz.results6 (by simp) ?_
 have hle1 := SlAt.le' (M.rep 0 rfl)
 have sl2 : IsSl v := SlAt.isSl (Mem.rep M 0 rfl)
 refine wR (wA (vB false) (WL.nil (W.seq' (wR (wM v ?_)))))
 refine wS (vI ↑l.length) rfl (Step.lenSl Tryz.un23 rfl (M.rep 0 rfl)) (wP (vB (decide ((↑l.length : Int) > (120 : Int)))) (WL.nil ?_))
 refine W.cond (t := decide ((↑l.length : Int) > (120 : Int))) rfl (fun h3 => ?_) (fun h3 => ?_)
 ·
  have h3p := of_decide_eq_true h3
  refine wR ?_
  refine WL.callX rfl (l_works  (M.enterW0 trivial)) (CallsF.func Tryz.en8 rfl) ?_
  rintro _ w4 ⟨rfl, m⟩
  replace M := M.leaveW0 m
  clear m
  refine wA (vB true) (WL.nil ?_)
  refine W.ret ?_
  refine ⟨.inl rfl, (vB true), ?_, ?_⟩
  · exact ⟨rfl, (Res.r1 (show RV _ _ _ (.tmp 4) (vB true) from by exact rfl))⟩
  refine ⟨?_, M.close [] rfl (by decide) trivial⟩
  rfl
 ·
  have h3p := of_decide_eq_false h3
  refine W.skip (wR ?_)
  refine WL.callX rfl (T_new  (M.enterW0 trivial)) (CallsF.func Tryz.en10 rfl) ?_
  rintro _ w7 ⟨tb5, S6, rfl, m⟩
  replace M := M.leaveW0 m
  clear m
  refine wA (vP tb5) (WL.nil (wR (wA vZ (WL.nil (W.seq' ?_)))))
  refine wR (wA (vI 0) (WL.nil (W.block ?_)))
  replace M := M.ownNil 81 2
  replace M := M.shareOwn 0 rfl
  replace M : Mem _ _ _ [tT S6 tb5 ([] : List THit) 0] [fR vZ ([] : List THit), fS v l] _ := M
  replace M := M.rechunk 0 (c' := tT S6 tb5 (rowE l 0) 0) rfl (rfl)
  have hrf8 := Sh.reList (show rowE l 0 = ([] : List THit) by rfl) (M.shr' 0 rfl)
  replace M := M.facts (R' := [fR vZ (rowE l 0), fS v l]) (Facts.all ⟨hrf8, M.shr' 1 rfl, trivial⟩)
  refine W.loop (fun kk ρ w' => ∃ (i_ : Nat) (rv_ : Value) (S_ : Nat → Prop), ((i_ ≤ l.length) ∧ kk = l.length - i_) ∧ ρ.has [(0, v), (1, (vI by_)), (5, (vP tb5)), (6, rv_), (7, (vI ↑i_))] ∧ Mem G (fun _ => False) w [tT S_ tb5 (rowE l i_) i_] [fR rv_ (rowE l i_), fS v l]  w') _ ⟨0, _, _, ⟨(Nat.zero_le _), rfl⟩, ⟨rfl, rfl, rfl, rfl, rfl, rfl, rfl⟩, M⟩ ?_
  rintro _ ρ10 w9 ⟨i_, rv_, S_, ⟨hi11, rfl⟩, hρ, M⟩
  obtain ⟨ρ10, rfl⟩ := hρ.know
  clear hρ
  have sl12 : IsSl rv_ := SlAt.isSl (M.rep 0 rfl)
  obtain ⟨_, hrc_⟩ := tabC_up (M.chunk 0 rfl).inv
  refine W.seq' (wR (wM (vI ↑i_) (wM v (wS (vI ↑l.length) rfl (Step.lenSl Tryz.un23 rfl (M.rep 1 rfl)) (wP (vB (decide ((↑i_ : Int) < (↑l.length : Int)))) ?_)))))
  refine WL.nil ?_
  refine W.cond (t := decide ((↑i_ : Int) < (↑l.length : Int))) rfl (fun h13 => ?_) (fun h13 => ?_)
  ·
   have h13p := of_decide_eq_true h13
   refine W.skip (W.seq' (W.block (W.seq' (wR (wM v ?_)))))
   refine wM (vI ↑i_) ?_
   obtain ⟨cap15, hb14⟩ := SlAt.base (M.rep 1 rfl) (by omega)
   obtain ⟨x16, hx16⟩ := elem_of_lt (xs := l) (i := i_) (by omega)
   refine wS (vQ v i_ 1) rfl (sX i_ Tryz.un23 Tryz.el9 rfl rfl hb14) (wS (vS x16) rfl (Step.loadE (k := 0) Tryz.sc9 (flat_ec (M.rep 1 rfl) hx16 strE_len) (by decide) rfl rfl) (wS (vI ↑x16.size) rfl (Step.lenStr Tryz.un9 rfl) (wP (vB (decide ((↑x16.size : Int) > (60 : Int)))) (WL.nil ?_))))
   refine W.cond (t := decide ((↑x16.size : Int) > (60 : Int))) rfl (fun h17 => ?_) (fun h17 => ?_)
   ·
    have h17p := of_decide_eq_true h17
    refine wR ?_
    refine WL.callX rfl (l_works  (M.enterW0 trivial)) (CallsF.func Tryz.en8 rfl) ?_
    rintro _ w18 ⟨rfl, m⟩
    replace M := M.leaveW0 m
    clear m
    refine wA (vB true) (WL.nil ?_)
    refine W.ret ?_
    refine ⟨.inl rfl, (vB true), ?_, ?_⟩
    · exact ⟨rfl, (Res.r1 (show RV _ _ _ (.tmp 4) (vB true) from by exact rfl))⟩
    refine ⟨?_, M.close [] rfl (by decide) trivial⟩
    rfl
   ·
    have h17p := of_decide_eq_false h17
    refine W.skip (wR (wM (vP tb5) (wM v (wM (vI ↑i_) (wS (vQ v i_ 1) rfl (sX i_ Tryz.un23 Tryz.el9 rfl rfl hb14) ?_)))))
    refine wS (vS x16) rfl (Step.loadE (k := 0) Tryz.sc9 (flat_ec (M.rep 1 rfl) hx16 strE_len) (by decide) rfl rfl) (wM (vI ↑i_) ?_)
    have fq := M.frm [tT S_ tb5 (rowE l i_) i_] [] [0] rfl
    refine WL.callX rfl (T_put tb5 S_ (rowE l i_) i_ x16 ↑i_ (by first | assumption | omega) (M.eF fq trivial)) (CallsF.func Tryz.en22 rfl) ?_
    rintro _ w20 ⟨S19, rfl, m⟩
    replace M := M.lF fq m
    clear m
    refine WL.nil (W.region rfl (wM rv_ (wM v (wM (vI ↑i_) (wS (vQ v i_ 1) rfl (sX i_ Tryz.un23 Tryz.el9 rfl rfl hb14) ?_)))))
    refine wS (vS x16) rfl (Step.loadE (k := 0) Tryz.sc9 (flat_ec (M.rep 1 rfl) hx16 strE_len) (by decide) rfl rfl) (wM (vI ↑i_) ?_)
    refine WL.callX rfl (r_put rv_ (rowE l i_) x16 ↑i_ (by omega) (M.enter0 ⟨(M.shr' 0 rfl), trivial⟩)) (CallsF.func Tryz.en23 rfl) ?_
    rintro v21 w22 ⟨_, rfl, m⟩
    replace M := M.leave0 m
    clear m
    have sl23 : IsSl v21 := SlAt.isSl (Mem.rep M 0 rfl)
    have hle24 := SlAt.le' (M.rep 0 rfl)
    refine wA v21 (WL.nil (W.region rfl (wM (vI ↑i_) (wS (vI (↑i_ + 1)) rfl (Step.add rfl rfl (wrap_i64 (by omega))) (wA (vI (↑i_ + 1)) ?_)))))
    refine WL.nil ?_
    replace M := M.rechunk 0 (c' := tT S19 tb5 (rowE l (i_ + 1)) (i_ + 1)) rfl (by rw [rowE_succ hx16])
    have hrf25 := Sh.reList (show rowE l (i_ + 1) = putR (rowE l i_) (⟨x16, ↑i_⟩ : THit) by rw [rowE_succ hx16]) (M.shr' 0 rfl)
    replace M := M.facts (R' := [fR v21 (rowE l (i_ + 1)), fR rv_ (rowE l i_), fS v l]) (Facts.all ⟨hrf25, M.shr' 1 rfl, M.shr' 2 rfl, trivial⟩)
    replace M := M.facts (R' := [fR v21 (rowE l (i_ + 1)), fS v l]) (Facts.all ⟨M.shr' 0 rfl, M.shr' 2 rfl, trivial⟩)
    exact ⟨_, (by omega), i_ + 1, v21, S19, ⟨(by omega), rfl⟩, ⟨rfl, rfl, rfl, rfl, rfl, rfl, rfl⟩, M⟩
  ·
   have h13p := of_decide_eq_false h13
   refine W.exit ?_
   refine thn_exit ?_
   refine thn_exit ?_
   refine inBlk_hit ?_
   refine wR (wM v (wS (vI ↑l.length) rfl (Step.lenSl Tryz.un23 rfl (M.rep 1 rfl)) (wA (vI ↑l.length) (WL.nil (wR ?_)))))
   refine wM (vI by_) (wM (vI ↑l.length) ?_)
   refine WL.callX rfl (kit_pick by_ ↑l.length (by omega) (M.enterW0 trivial)) (CallsF.func Tryz.en24 rfl) ?_
   rintro _ w26 ⟨rfl, m⟩
   replace M := M.leaveW0 m
   clear m
   obtain ⟨kq_, hkq_, hkl_⟩ := pick_nat0 by_ l.length
   rw [hkq_]
   refine wA (vI ↑kq_) (WL.nil (W.seq' (wR (wA (vI 0) (WL.nil ?_)))))
   refine W.block ?_
   refine W.loop (fun kk ρ w' => ∃ (j_ : Nat) (row_ : List THit) (rw_ : Value) (S2_ : Nat → Prop), ((j_ ≤ l.length) ∧ (emOk l kq_ j_ row_) ∧ kk = l.length - j_) ∧ ρ.has [(0, v), (5, (vP tb5)), (6, rw_), (8, (vI ↑l.length)), (9, (vI ↑kq_)), (10, (vI ↑j_))] ∧ Mem G (fun _ => False) w [tT S2_ tb5 row_ i_] [fR rw_ row_, fS v l]  w') _ ⟨0, rowE l i_, _, _, ⟨(Nat.zero_le _), emOk_zero, rfl⟩, ⟨rfl, rfl, rfl, rfl, rfl, rfl, rfl, rfl⟩, M⟩ ?_
   rintro _ ρ28 w27 ⟨j_, row_, rw_, S2_, ⟨hi29, hi30, rfl⟩, hρ, M⟩
   obtain ⟨ρ28, rfl⟩ := hρ.know
   clear hρ
   have hem_ : emOk l kq_ j_ row_ := hi30
   obtain ⟨_, hrd_⟩ := tabC_up (M.chunk 0 rfl).inv
   have sl31 : IsSl rw_ := SlAt.isSl (M.rep 0 rfl)
   refine W.seq' (wR (wM (vI ↑j_) (wM (vI ↑l.length) (wP (vB (decide ((↑j_ : Int) < (↑l.length : Int)))) (WL.nil ?_)))))
   refine W.cond (t := decide ((↑j_ : Int) < (↑l.length : Int))) rfl (fun h32 => ?_) (fun h32 => ?_)
   ·
    have h32p := of_decide_eq_true h32
    refine W.skip (W.seq' (W.block (wR (wM v (wM (vI ↑j_) ?_)))))
    refine wS (vI (↑j_ * 7)) rfl (Step.mul rfl rfl (wrap_i64 (by omega))) (wM (vI ↑kq_) (wS (vI (↑j_ * 7 + ↑kq_)) rfl (Step.add rfl rfl (wrap_i64 (by omega))) (wM (vI ↑l.length) ?_)))
    have hml7_ : (j_ * 7 + kq_) % l.length < l.length := Nat.mod_lt _ (by omega)
    refine wS (vI (↑((j_ * 7 + kq_) % l.length))) rfl (Step.cast (congrArg (Value.int .i64) (by rw [show ((↑j_ * 7 + ↑kq_ : Int)) = ((j_ * 7 + kq_ : Nat) : Int) by omega, tmod_nat])) (Step.rem rfl rfl (by omega))) ?_
    obtain ⟨cap34, hb33⟩ := SlAt.base (M.rep 1 rfl) (by omega)
    obtain ⟨x35, hx35⟩ := elem_of_lt (xs := l) (i := (j_ * 7 + kq_) % l.length) (by omega)
    refine wS (vQ v ((j_ * 7 + kq_) % l.length) 1) rfl (sX ((j_ * 7 + kq_) % l.length) Tryz.un23 Tryz.el9 rfl rfl hb33) (wS (vS x35) rfl (Step.loadE (k := 0) Tryz.sc9 (flat_ec (M.rep 1 rfl) hx35 strE_len) (by decide) rfl rfl) (wA (vS x35) (WL.nil (W.seq' (wR ?_)))))
    refine wM (vI ↑l.length) (wS (vI ((↑l.length : Int) % 7)) rfl (Step.remN rfl rfl (by omega) (by decide)) (wP (vB (((↑l.length : Int) % 7 : Int) == (0 : Int))) (WL.nil ?_)))
    obtain ⟨s_, hs_⟩ : ∃ s, l[emI l.length kq_ j_]? = some s := elem_of_lt (by unfold emI; split <;> exact Nat.mod_lt _ (by omega))
    refine W.join (fun ρ w' => ρ.has [(0, v), (5, (vP tb5)), (6, rw_), (8, (vI ↑l.length)), (9, (vI ↑kq_)), (10, (vI ↑j_)), (11, (vS s_)), (53, (vI ↑j_)), (54, (vI ↑l.length)), (55, (vB (decide ((↑j_ : Int) < (↑l.length : Int))))), (58, v), (59, (vI ↑j_)), (60, (vI (↑j_ * 7))), (61, (vI ↑kq_)), (62, (vI (↑j_ * 7 + ↑kq_))), (63, (vI ↑l.length)), (64, (vI (↑((j_ * 7 + kq_) % l.length)))), (65, (vQ v ((j_ * 7 + kq_) % l.length) 1)), (66, (vS x35)), (67, (vI ↑l.length)), (68, (vI ((↑l.length : Int) % 7))), (69, (vB (((↑l.length : Int) % 7 : Int) == (0 : Int))))] ∧ Mem G (fun _ => False) w [tT S2_ tb5 row_ i_] [fR rw_ row_, fS v l] w') ?_ ?_
    ·
     refine W.cond (t := ((↑l.length : Int) % 7 : Int) == (0 : Int)) rfl (fun h36 => ?_) (fun h36 => ?_)
     ·
      have h36p : ((↑l.length : Int) % 7 : Int) = (0 : Int) := by simpa using h36
      refine W.region rfl (wM v (wM (vI ↑j_) (wM (vI ↑kq_) (wS (vI (↑j_ + ↑kq_)) rfl (Step.add rfl rfl (wrap_i64 (by omega))) (wM (vI ↑l.length) ?_)))))
      have hml1_ : (j_ + kq_) % l.length < l.length := Nat.mod_lt _ (by omega)
      refine wS (vI (↑((j_ + kq_) % l.length))) rfl (Step.cast (congrArg (Value.int .i64) (by rw [show ((↑j_ + ↑kq_ : Int)) = ((j_ + kq_ : Nat) : Int) by omega, tmod_nat])) (Step.rem rfl rfl (by omega))) ?_
      obtain ⟨x37, hx37⟩ := elem_of_lt (xs := l) (i := (j_ + kq_) % l.length) (by omega)
      refine wS (vQ v ((j_ + kq_) % l.length) 1) rfl (sX ((j_ + kq_) % l.length) Tryz.un23 Tryz.el9 rfl rfl hb33) (wS (vS x37) rfl (Step.loadE (k := 0) Tryz.sc9 (flat_ec (M.rep 1 rfl) hx37 strE_len) (by decide) rfl rfl) (wA (vS x37) (WL.nil ?_)))
      exact ⟨⟨rfl, rfl, rfl, rfl, rfl, rfl, (congrArg Value.string (show x37 = s_ from Option.some.inj (hx37.symm.trans (by rw [emI_seven (show l.length % 7 = 0 by omega)] at hs_; exact hs_)))), rfl, rfl, rfl, rfl, rfl, rfl, rfl, rfl, rfl, rfl, rfl, rfl, rfl, rfl, rfl, rfl, rfl⟩, M⟩
     ·
      have h36p : ¬ ((↑l.length : Int) % 7 : Int) = (0 : Int) := by simpa using h36
      refine W.skip ?_
      exact ⟨⟨rfl, rfl, rfl, rfl, rfl, rfl, (congrArg Value.string (show x35 = s_ from Option.some.inj (hx35.symm.trans (by rw [emI_not (show ¬ l.length % 7 = 0 by omega)] at hs_; exact hs_)))), rfl, rfl, rfl, rfl, rfl, rfl, rfl, rfl, rfl, rfl, rfl, rfl, rfl, rfl, rfl, rfl, rfl⟩, M⟩
    ·
     rintro ρ38 w39 ⟨hρ, M⟩
     obtain ⟨ρ38, rfl⟩ := hρ.know
     clear hρ
     refine wR (wM (vP tb5) (wM (vS s_) ?_))
     have fq := M.frm [tT S2_ tb5 row_ i_] [] [0] rfl
     refine WL.callX rfl (T_delete tb5 S2_ row_ i_ s_ (by first | assumption | omega) (M.eF fq trivial)) (CallsF.func Tryz.en25 rfl) ?_
     rintro _ w41 ⟨S40, rfl, m⟩
     replace M := M.lF fq m
     clear m
     refine wM (Value.tuple #[(vI ((getL row_ s_).1)), (vB ((getL row_ s_).2))]) (wP (vI ((getL row_ s_).1)) (wP (vB ((getL row_ s_).2)) (wA (vI ((getL row_ s_).1)) (wA (vB ((getL row_ s_).2)) (WL.nil ?_)))))
     refine wR (wM rw_ (wM (vS s_) ?_))
     refine WL.callX rfl (r_get rw_ row_ s_ (M.enterW0 ⟨(M.wideR0 0 rfl), trivial⟩)) (CallsF.func Tryz.en26 rfl) ?_
     rintro _ w42 ⟨rfl, m⟩
     replace M := M.leaveW0 m
     clear m
     refine wM (Value.tuple #[(vI ((getL row_ s_).1)), (vB ((getL row_ s_).2))]) (wP (vI ((getL row_ s_).1)) (wP (vB ((getL row_ s_).2)) (wA (vI ((getL row_ s_).1)) (wA (vB ((getL row_ s_).2)) (WL.nil ?_)))))
     refine wR (wM rw_ (wM (vS s_) ?_))
     refine WL.callX rfl (r_delete rw_ row_ s_ (by omega) (M.enter0 ⟨(M.shr' 0 rfl), trivial⟩)) (CallsF.func Tryz.en27 rfl) ?_
     rintro v43 w44 ⟨_, rfl, m⟩
     replace M := M.leave0 m
     clear m
     have sl45 : IsSl v43 := SlAt.isSl (Mem.rep M 0 rfl)
     have hle46 := SlAt.le' (M.rep 0 rfl)
     refine wA v43 (WL.nil (wR (wM (vI ((getL row_ s_).1)) (wM (vI ((getL row_ s_).1)) (wS (vB false) rfl (Step.cast (congrArg Value.bool (show (((getL row_ s_).1 : Int) != ((getL row_ s_).1 : Int)) = false by simp)) sP) ?_)))))
     refine wM (vB false) (wM (vB ((getL row_ s_).2)) (wM (vB ((getL row_ s_).2)) (wS (vB false) rfl (Step.cast (congrArg Value.bool (by simp)) (Step.pure (v := .bool (!(((getL row_ s_).2) == ((getL row_ s_).2)))) (by kernel_rfl))) (wS (vB false) rfl (Step.pick (t := false) rfl rfl) (wM (vB false) ?_)))))
     refine wM (vP tb5) ?_
     have fq := M.frm [tT S40 tb5 (delL row_ s_) i_] [] [0] rfl
     refine WL.callX rfl (T_all tb5 S40 (delL row_ s_) i_ (by first | assumption | omega) (M.eF fq trivial)) (CallsF.func Tryz.en18 rfl) ?_
     rintro v47 w48 ⟨_, rfl, m⟩
     replace M := M.lF fq m
     clear m
     have sl49 : IsSl v47 := SlAt.isSl (own_slAt (Mem.chunk M 1 rfl).inv)
     have hle50 := SlAt.le' (own_slAt (Mem.chunk M 1 rfl).inv)
     refine wM v43 ?_
     refine WL.callX rfl (l_same v47 (delL row_ s_) v43 (M.enterW0 ⟨((M.wideC0 1 rfl).imp fun _ h => own_slAt h), (M.wideR0 0 rfl), trivial⟩)) (CallsF.func Tryz.en17 rfl) ?_
     rintro _ w51 ⟨rfl, m⟩
     replace M := M.leaveW0 m
     clear m
     refine wP (vB false) (wS (vB false) rfl (Step.pick (t := false) rfl rfl) (wM (vB false) (wM (vP tb5) ?_)))
     have fq := M.frm [tT S40 tb5 (delL row_ s_) i_] [oR v47 (delL row_ s_)] [0, 1] rfl
     refine WL.callX rfl (T_check tb5 S40 (delL row_ s_) i_ (by first | assumption | omega) (M.eF fq trivial)) (CallsF.func Tryz.en13 rfl) ?_
     rintro _ w52 ⟨rfl, m⟩
     replace M := M.lF fq m
     clear m
     refine wP (vB false) (wS (vB false) rfl (Step.pick (t := false) rfl rfl) (WL.nil ?_))
     refine W.cond (t := false) rfl (fun h => by cases h) (fun _ => ?_)
     refine W.skip (W.region rfl (wM (vI ↑j_) (wS (vI (↑j_ + 1)) rfl (Step.add rfl rfl (wrap_i64 (by omega))) (wA (vI (↑j_ + 1)) (WL.nil ?_)))))
     replace M := M.sel (L' := [tT S40 tb5 (delL row_ s_) i_]) [0] rfl (by decide)
     replace M := M.facts (R' := [fR v43 (delL row_ s_), fS v l]) (Facts.all ⟨M.shr' 0 rfl, M.shr' 2 rfl, trivial⟩)
     exact ⟨_, (by omega), j_ + 1, (delL row_ s_), v43, S40, ⟨(by omega), (emOk_step hem_ hs_), rfl⟩, ⟨rfl, rfl, rfl, rfl, rfl, rfl, rfl, rfl⟩, M⟩
   ·
    have h32p := of_decide_eq_false h32
    have hrow_ := emOk_all hem_ (by omega) hkl_
    refine W.exit ?_
    refine thn_exit ?_
    refine thn_exit ?_
    refine inBlk_hit ?_
    refine W.seq' ?_
    replace M := M.rechunk 0 (c' := tT S2_ tb5 ([] : List THit) i_) rfl (by rw [hrow_])
    refine W.region rfl (wM (vP tb5) ?_)
    have fq := M.frm [tT S2_ tb5 ([] : List THit) i_] [] [0] rfl
    refine WL.callX rfl (T_len tb5 S2_ ([] : List THit) i_ (M.eF fq trivial)) (CallsF.func Tryz.en19 rfl) ?_
    rintro _ w53 ⟨rfl, m⟩
    replace M := M.lF fq m
    clear m
    rw [(show (↑([] : List THit).length : Int) = 0 from rfl)]
    refine wP (vB true) (wM (vB true) (wM (vP tb5) ?_))
    have fq := M.frm [tT S2_ tb5 ([] : List THit) i_] [] [0] rfl
    refine WL.callX rfl (T_places tb5 S2_ ([] : List THit) i_ (by first | assumption | omega) (M.eF fq trivial)) (CallsF.func Tryz.en12 rfl) ?_
    rintro v54 w58 ⟨_, cs55, N56, ps57, rfl, m⟩
    replace M := M.lF fq m
    clear m
    have sl59 : IsSl v54 := SlAt.isSl (own_slAt (Mem.chunk M 1 rfl).inv)
    have hle60 := SlAt.le' (own_slAt (Mem.chunk M 1 rfl).inv)
    have hpn_ := plc_nil (M.chunk 3 rfl).inv
    have hcl_ := rows_len (M.chunk 2 rfl).inv
    refine wS (vI 0) rfl (Step.cast (congrArg (Value.int .i64) (show (↑cs55.length : Int) = 0 by omega)) (Step.lenSl Tryz.un38 rfl (own_slAt (M.chunk 1 rfl).inv))) (wP (vB true) (wS (vB true) rfl (Step.pick (t := true) rfl rfl) (wM (vB true) ?_)))
    refine WL.callX rfl (l_works  (M.enterW0 trivial)) (CallsF.func Tryz.en8 rfl) ?_
    rintro _ w61 ⟨rfl, m⟩
    replace M := M.leaveW0 m
    clear m
    refine wS (vB true) rfl (Step.pick (t := true) rfl rfl) (wA (vB true) (WL.nil ?_))
    refine W.ret ?_
    refine ⟨.inl rfl, (vB true), ?_, ?_⟩
    · exact ⟨rfl, (Res.r1 (show RV _ _ _ (.tmp 4) (vB true) from by exact rfl))⟩
    refine ⟨?_, M.close [] rfl (by decide) trivial⟩
    rfl
end Go.Proofs
set_option maxRecDepth 100000
namespace Go.Proofs
open Go Tp
theorem Tryz.el5 : Elem Tryz.prog 5 (Value.int .u8 0) 1 1 := Elem.mk (by kernel_rfl)
theorem Tryz.en4 : Enters Tryz.prog 4 := fun _ _ => by kernel_rfl
theorem Tryz.en5 : Enters Tryz.prog 5 := fun _ _ => by kernel_rfl
theorem Tryz.en6 : Enters Tryz.prog 6 := fun _ _ => by kernel_rfl
theorem Tryz.en7 : Enters Tryz.prog 7 := fun _ _ => by kernel_rfl
theorem law12_known {G : Nat → Prop} {w : World}    (M : Mem G (fun _ => False) w [] [] w) : Rets Tryz.prog 3 #[] w fun r w' => r = (vB true) ∧ Mem G (fun _ => False) w [] [] w' := by
 refine Rets.enter 141 _ Tryz.func3 rfl Tryz.ntmps3 Tryz.results3 (by simp) ?_
 refine wR (wA (vB false) (WL.nil (W.seq' (wR (wA (vI 1) ?_)))))
 refine WL.nil (W.block ?_)
 refine W.loop (fun kk ρ w' => ∃ (n_ : Nat), ((1 ≤ n_) ∧ (n_ ≤ 93) ∧ kk = 94 - n_) ∧ ρ.has [(1, (vI ↑n_))] ∧ Mem G (fun _ => False) w [] []  w') _ ⟨1, ⟨(Nat.le_refl _), (by omega), rfl⟩, ⟨rfl, rfl, rfl⟩, M⟩ ?_
 rintro _ ρ2 w1 ⟨n_, ⟨hi3, hi4, rfl⟩, hρ, M⟩
 obtain ⟨ρ2, rfl⟩ := hρ.know
 clear hρ
 refine W.seq' (wR (wM (vI ↑n_) (wP (vB (decide ((↑n_ : Int) < (90 : Int)))) (WL.nil ?_))))
 refine W.cond (t := decide ((↑n_ : Int) < (90 : Int))) rfl (fun h5 => ?_) (fun h5 => ?_)
 ·
  have h5p := of_decide_eq_true h5
  refine W.skip (W.seq' (W.block (wR (wA vZ (WL.nil ?_)))))
  refine wR (wA vZ (WL.nil (W.seq' (wR (wA (vI 0) ?_)))))
  refine WL.nil (W.block ?_)
  replace M := M.ownNil 26 3
  replace M : Mem _ _ _ [own 26 3 vZ (([] : List TAct).length) (([] : List TAct).flatMap actE)] [] _ := M
  replace M := M.ownNil 9 1
  replace M : Mem _ _ _ [oS vZ ([] : List ByteArray), own 26 3 vZ (([] : List TAct).length) (([] : List TAct).flatMap actE)] [] _ := M
  replace M := M.sel (L' := [own 26 3 vZ (([] : List TAct).length) (([] : List TAct).flatMap actE), oS vZ ([] : List ByteArray)]) [1, 0] rfl (by decide)
  refine W.loop (fun kk ρ w' => ∃ (i_ : Nat) (lv_ : Value) (ls_ : List TAct) (sv_ : Value) (ss_ : List ByteArray), ((i_ ≤ n_) ∧ (ls_.length = i_) ∧ (ss_.length = i_) ∧ kk = n_ - i_) ∧ ρ.has [(1, (vI ↑n_)), (2, lv_), (3, sv_), (4, (vI ↑i_)), (12, (vI ↑n_)), (13, (vB (decide ((↑n_ : Int) < (90 : Int)))))] ∧ Mem G (fun _ => False) w [own 26 3 lv_ ls_.length (ls_.flatMap actE), oS sv_ ss_] []  w') _ ⟨0, vZ, ([] : List TAct), vZ, ([] : List ByteArray), ⟨(Nat.zero_le _), rfl, rfl, rfl⟩, ⟨rfl, rfl, rfl, rfl, rfl, rfl, rfl, rfl⟩, M⟩ ?_
  rintro _ ρ7 w6 ⟨i_, lv_, ls_, sv_, ss_, ⟨hi8, hi9, hi10, rfl⟩, hρ, M⟩
  obtain ⟨ρ7, rfl⟩ := hρ.know
  clear hρ
  have sl11 : IsSl lv_ := SlAt.isSl (own_slAt (M.chunk 0 rfl).inv)
  have sl12 : IsSl sv_ := SlAt.isSl (own_slAt (M.chunk 1 rfl).inv)
  have hbls_ : ls_.length ≤ 100000 := by omega
  have hbss_ : ss_.length ≤ 100000 := by omega
  refine W.seq' (wR (wM (vI ↑i_) (wM (vI ↑n_) (wP (vB (decide ((↑i_ : Int) < (↑n_ : Int)))) (WL.nil ?_)))))
  refine W.cond (t := decide ((↑i_ : Int) < (↑n_ : Int))) rfl (fun h13 => ?_) (fun h13 => ?_)
  ·
   have h13p := of_decide_eq_true h13
   refine W.skip (W.seq' (W.block (wR (wM (vI ↑i_) (wM (vI ↑n_) ?_)))))
   refine wS (vI (2 * ↑n_)) rfl (Step.mul rfl rfl (wrap_i64 (by omega))) (wS (vI (2 * ↑n_ + 1)) rfl (Step.add rfl rfl (wrap_i64 (by omega))) ?_)
   obtain ⟨m1_, hm1_, hm1b_⟩ : ∃ m : Nat, (↑i_ * (2 * ↑n_ + 1) : Int) = ↑m ∧ m ≤ 20000 := ⟨i_ * (2 * n_ + 1), by rw [Int.natCast_mul]; congr 1, Nat.le_trans (Nat.mul_le_mul (show i_ ≤ 94 by omega) (show 2 * n_ + 1 ≤ 187 by omega)) (by decide)⟩
   refine wS (vI ↑m1_) rfl (Step.cast (congrArg (Value.int .i64) hm1_) (Step.mul rfl rfl (wrap_i64 (by omega)))) (wM (vI ↑n_) (wS (vI (↑m1_ + ↑n_)) rfl (Step.add rfl rfl (wrap_i64 (by omega))) (wS (vI ((↑m1_ + ↑n_ : Int) % 97)) rfl (Step.remN rfl rfl (by omega) (by decide)) (wA (vI ((↑m1_ + ↑n_ : Int) % 97)) (WL.nil ?_)))))
   refine wR (wM (vI ((↑m1_ + ↑n_ : Int) % 97)) (wS (vI (((↑m1_ + ↑n_ : Int) % 97 : Int) % 26)) rfl (Step.remN rfl rfl (by omega) (by decide)) (wS (vI (97 + (((↑m1_ + ↑n_ : Int) % 97 : Int) % 26))) rfl (Step.add rfl rfl (wrap_i64 (by omega))) (wS (Value.int .u8 (IntKind.u8.wrap (97 + (((↑m1_ + ↑n_ : Int) % 97 : Int) % 26) : Int))) rfl (Step.conv Tryz.un3 Tryz.un5 rfl rfl) (wM (vI ((↑m1_ + ↑n_ : Int) % 97)) ?_)))))
   refine wS (vI (((↑m1_ + ↑n_ : Int) % 97 : Int) / 26)) rfl (Step.quoN rfl rfl (by omega) (by decide) (wrap_i64 (by omega))) (wS (vI (97 + (((↑m1_ + ↑n_ : Int) % 97 : Int) / 26))) rfl (Step.add rfl rfl (wrap_i64 (by omega))) (wS (Value.int .u8 (IntKind.u8.wrap (97 + (((↑m1_ + ↑n_ : Int) % 97 : Int) / 26) : Int))) rfl (Step.conv Tryz.un3 Tryz.un5 rfl rfl) (wA (Value.int .u8 (IntKind.u8.wrap (97 + (((↑m1_ + ↑n_ : Int) % 97 : Int) % 26) : Int))) (wA (Value.int .u8 (IntKind.u8.wrap (97 + (((↑m1_ + ↑n_ : Int) % 97 : Int) / 26) : Int))) (WL.nil ?_)))))
   refine wR (wM sv_ (wM (Value.int .u8 (IntKind.u8.wrap (97 + (((↑m1_ + ↑n_ : Int) % 97 : Int) % 26) : Int))) (wM (Value.int .u8 (IntKind.u8.wrap (97 + (((↑m1_ + ↑n_ : Int) % 97 : Int) / 26) : Int))) ?_)))
   refine WL.new (obj := .cells #[(Value.int .u8 (IntKind.u8.wrap (97 + (((↑m1_ + ↑n_ : Int) % 97 : Int) % 26) : Int))), (Value.int .u8 (IntKind.u8.wrap (97 + (((↑m1_ + ↑n_ : Int) % 97 : Int) / 26) : Int)))] 5) (fun b => .slice (some ⟨b, 0, none⟩) 2 2) M rfl (fun w => Step.make (by kernel_rfl)) (fun b14 w15 hb14 M => ?_)
   refine wM (vI ↑n_) (wM (vI ↑i_) (wS (vI (↑n_ + ↑i_)) rfl (Step.add rfl rfl (wrap_i64 (by omega))) (wS (vI ((↑n_ + ↑i_ : Int) % 2)) rfl (Step.remN rfl rfl (by omega) (by decide)) (wS (vI (1 + ((↑n_ + ↑i_ : Int) % 2))) rfl (Step.add rfl rfl (wrap_i64 (by omega))) (wS (Value.slice (some ⟨b14, 0, none⟩) ((1 + ((↑n_ + ↑i_ : Int) % 2)).toNat) 2) rfl (Step.sliceH (h := (1 + ((↑n_ + ↑i_ : Int) % 2)).toNat) Tryz.un24 Tryz.el5.sized rfl rfl (by omega) rfl (by omega)) ?_)))))
   refine wS (vS (strOfNums (([IntKind.u8.wrap (97 + (((↑m1_ + ↑n_ : Int) % 97 : Int) % 26) : Int), IntKind.u8.wrap (97 + (((↑m1_ + ↑n_ : Int) % 97 : Int) / 26) : Int)] : List Int).take ((1 + ((↑n_ + ↑i_ : Int) % 2)).toNat)))) rfl (Step.bytesStr (([IntKind.u8.wrap (97 + (((↑m1_ + ↑n_ : Int) % 97 : Int) % 26) : Int), IntKind.u8.wrap (97 + (((↑m1_ + ↑n_ : Int) % 97 : Int) / 26) : Int)] : List Int).take ((1 + ((↑n_ + ↑i_ : Int) % 2)).toNat)) Tryz.un24 Tryz.un5 Tryz.un9 rfl (M.blk 0 rfl) (by rw [List.map_take]; rfl) (by simp only [List.length_take, List.length_cons, List.length_nil]; omega)) ?_
   refine WL.new (obj := .cells #[(vS (strOfNums (([IntKind.u8.wrap (97 + (((↑m1_ + ↑n_ : Int) % 97 : Int) % 26) : Int), IntKind.u8.wrap (97 + (((↑m1_ + ↑n_ : Int) % 97 : Int) / 26) : Int)] : List Int).take ((1 + ((↑n_ + ↑i_ : Int) % 2)).toNat))))] 9) (fun b => .slice (some ⟨b, 0, none⟩) 1 1) M rfl (fun w => Step.make (by kernel_rfl)) (fun b16 w17 hb16 M => ?_)
   refine WL.does rfl (M.appendF ss_ ([(strOfNums (([IntKind.u8.wrap (97 + (((↑m1_ + ↑n_ : Int) % 97 : Int) % 26) : Int), IntKind.u8.wrap (97 + (((↑m1_ + ↑n_ : Int) % 97 : Int) / 26) : Int)] : List Int).take ((1 + ((↑n_ + ↑i_ : Int) % 2)).toNat)))] : List ByteArray) (sv := (Value.slice (some ⟨b16, 0, none⟩) 1 1)) 3 Tryz.un23 Tryz.el9 rfl (by decide) rfl rfl rfl (SlAt.of_blk (M.blk 0 rfl) rfl (by decide)) strE_cel (by have := hbss_; simp only [maxLen, List.length_nil, List.length_cons, List.length_append]; omega) (by have := hbss_; (try simp only [List.length_nil, List.length_cons, List.length_append]); omega)) ?_
   rintro v18 w19 M
   have sl20 : IsSl v18 := SlAt.isSl (own_slAt (M.chunk 3 rfl).inv)
   refine wA v18 (WL.nil (W.region rfl (wM lv_ (wM (vI ↑i_) (wM (vI ↑n_) ?_)))))
   obtain ⟨m2_, hm2_, hm2b_⟩ : ∃ m : Nat, (↑i_ * ↑n_ : Int) = ↑m ∧ m ≤ 20000 := ⟨i_ * n_, by rw [Int.natCast_mul], Nat.le_trans (Nat.mul_le_mul (show i_ ≤ 94 by omega) (show n_ ≤ 94 by omega)) (by decide)⟩
   refine wS (vI ↑m2_) rfl (Step.cast (congrArg (Value.int .i64) hm2_) (Step.mul rfl rfl (wrap_i64 (by omega)))) (wS (vI ((↑m2_ : Int) % 3)) rfl (Step.remN rfl rfl (by omega) (by decide)) (wM (Value.int .u8 (IntKind.u8.wrap (97 + (((↑m1_ + ↑n_ : Int) % 97 : Int) % 26) : Int))) (wM (Value.int .u8 (IntKind.u8.wrap (97 + (((↑m1_ + ↑n_ : Int) % 97 : Int) / 26) : Int))) ?_)))
   refine WL.new (obj := .cells #[(Value.int .u8 (IntKind.u8.wrap (97 + (((↑m1_ + ↑n_ : Int) % 97 : Int) % 26) : Int))), (Value.int .u8 (IntKind.u8.wrap (97 + (((↑m1_ + ↑n_ : Int) % 97 : Int) / 26) : Int)))] 5) (fun b => .slice (some ⟨b, 0, none⟩) 2 2) M rfl (fun w => Step.make (by kernel_rfl)) (fun b21 w22 hb21 M => ?_)
   refine wS (vS (strOfNums ([IntKind.u8.wrap (97 + (((↑m1_ + ↑n_ : Int) % 97 : Int) % 26) : Int), IntKind.u8.wrap (97 + (((↑m1_ + ↑n_ : Int) % 97 : Int) / 26) : Int)] : List Int))) rfl (Step.bytesStr [IntKind.u8.wrap (97 + (((↑m1_ + ↑n_ : Int) % 97 : Int) % 26) : Int), IntKind.u8.wrap (97 + (((↑m1_ + ↑n_ : Int) % 97 : Int) / 26) : Int)] Tryz.un24 Tryz.un5 Tryz.un9 rfl (M.blk 0 rfl) rfl rfl) (wM (vI ↑i_) (wP (Value.agg #[(vI ((↑m2_ : Int) % 3)), (vS (strOfNums ([IntKind.u8.wrap (97 + (((↑m1_ + ↑n_ : Int) % 97 : Int) % 26) : Int), IntKind.u8.wrap (97 + (((↑m1_ + ↑n_ : Int) % 97 : Int) / 26) : Int)] : List Int))), (vI ↑i_)]) ?_))
   refine WL.new (obj := .cells #[(vI ((↑m2_ : Int) % 3)), (vS (strOfNums ([IntKind.u8.wrap (97 + (((↑m1_ + ↑n_ : Int) % 97 : Int) % 26) : Int), IntKind.u8.wrap (97 + (((↑m1_ + ↑n_ : Int) % 97 : Int) / 26) : Int)] : List Int))), (vI ↑i_)] 26) (fun b => .slice (some ⟨b, 0, none⟩) 1 1) M rfl (fun w => Step.make (by kernel_rfl)) (fun b23 w24 hb23 M => ?_)
   refine WL.does rfl (M.appendF ls_ ([(⟨(↑m2_ : Int) % 3, strOfNums ([IntKind.u8.wrap (97 + (((↑m1_ + ↑n_ : Int) % 97 : Int) % 26) : Int), IntKind.u8.wrap (97 + (((↑m1_ + ↑n_ : Int) % 97 : Int) / 26) : Int)] : List Int), ↑i_⟩ : TAct)] : List TAct) (sv := (Value.slice (some ⟨b23, 0, none⟩) 1 1)) 4 Tryz.un22 Tryz.el26 rfl (by decide) rfl rfl rfl (SlAt.of_blk (M.blk 0 rfl) rfl (by decide)) actE_cel (by have := hbls_; simp only [maxLen, List.length_nil, List.length_cons, List.length_append]; omega) (by have := hbls_; (try simp only [List.length_nil, List.length_cons, List.length_append]); omega)) ?_
   rintro v25 w26 M
   have sl27 : IsSl v25 := SlAt.isSl (own_slAt (M.chunk 4 rfl).inv)
   refine wA v25 (WL.nil (W.region rfl (wM (vI ↑i_) (wS (vI (↑i_ + 1)) rfl (Step.add rfl rfl (wrap_i64 (by omega))) (wA (vI (↑i_ + 1)) ?_)))))
   refine WL.nil ?_
   replace M := M.sel (L' := [own 26 3 v25 ((ls_ ++ ([(⟨(↑m2_ : Int) % 3, strOfNums ([IntKind.u8.wrap (97 + (((↑m1_ + ↑n_ : Int) % 97 : Int) % 26) : Int), IntKind.u8.wrap (97 + (((↑m1_ + ↑n_ : Int) % 97 : Int) / 26) : Int)] : List Int), ↑i_⟩ : TAct)] : List TAct)).length) ((ls_ ++ ([(⟨(↑m2_ : Int) % 3, strOfNums ([IntKind.u8.wrap (97 + (((↑m1_ + ↑n_ : Int) % 97 : Int) % 26) : Int), IntKind.u8.wrap (97 + (((↑m1_ + ↑n_ : Int) % 97 : Int) / 26) : Int)] : List Int), ↑i_⟩ : TAct)] : List TAct)).flatMap actE), oS v18 (ss_ ++ ([(strOfNums (([IntKind.u8.wrap (97 + (((↑m1_ + ↑n_ : Int) % 97 : Int) % 26) : Int), IntKind.u8.wrap (97 + (((↑m1_ + ↑n_ : Int) % 97 : Int) / 26) : Int)] : List Int).take ((1 + ((↑n_ + ↑i_ : Int) % 2)).toNat)))] : List ByteArray))]) [4, 5] rfl (by decide)
   exact ⟨_, (by omega), i_ + 1, v25, ls_ ++ ([(⟨(↑m2_ : Int) % 3, strOfNums ([IntKind.u8.wrap (97 + (((↑m1_ + ↑n_ : Int) % 97 : Int) % 26) : Int), IntKind.u8.wrap (97 + (((↑m1_ + ↑n_ : Int) % 97 : Int) / 26) : Int)] : List Int), ↑i_⟩ : TAct)] : List TAct), v18, ss_ ++ ([(strOfNums (([IntKind.u8.wrap (97 + (((↑m1_ + ↑n_ : Int) % 97 : Int) % 26) : Int), IntKind.u8.wrap (97 + (((↑m1_ + ↑n_ : Int) % 97 : Int) / 26) : Int)] : List Int).take ((1 + ((↑n_ + ↑i_ : Int) % 2)).toNat)))] : List ByteArray), ⟨(by omega), (by simp; omega), (by simp; omega), rfl⟩, ⟨rfl, rfl, rfl, rfl, rfl, rfl, rfl, rfl⟩, M⟩
  ·
   have h13p := of_decide_eq_false h13
   refine W.exit ?_
   refine thn_exit ?_
   refine thn_exit ?_
   refine inBlk_hit ?_
   refine wR (wM lv_ ?_)
   refine WL.callX rfl (law12_stands lv_ ls_ (M.enterW0 ⟨((M.wideC0 0 rfl).imp fun _ h => own_slAt h), trivial⟩)) (CallsF.func Tryz.en4 rfl) ?_
   rintro _ w28 ⟨rfl, m⟩
   replace M := M.leaveW0 m
   clear m
   refine wP (vB false) (wM (vB false) (wM lv_ (wM (vI ↑n_) (wS (vI (↑(min n_ 40))) rfl (Step.cast (congrArg (Value.int .i64) (show (min (↑n_ : Int) (40 : Int) : Int) = ↑(min n_ 40) by omega)) (Step.minI rfl rfl)) ?_))))
   have hsh29 := SlAt.shp (own_slAt (M.chunk 0 rfl).inv)
   have hsh29c := hsh29
   obtain ⟨_, _, hsh29l, hsh29m⟩ := hsh29c
   refine wS (vTake (min n_ 40) lv_) rfl (Step.sliceToP (h := min n_ 40) Tryz.un22 Tryz.el26.sized rfl rfl (by omega) hsh29 (by obtain ⟨_, _, _, _⟩ := hsh29; omega)) ?_
   refine WL.callX rfl (law12_plays (vTake (min n_ 40) lv_) (ls_.take (min n_ 40)) (⟨#[109]⟩ : ByteArray) (M.enterW0 ⟨((((M.wideC0 0 rfl).imp fun _ h => own_slAt h)).imp fun _ h => slat_take actE_len h (by omega)), trivial⟩)) (CallsF.func Tryz.en5 rfl) ?_
   rintro _ w30 ⟨rfl, m⟩
   replace M := M.leaveW0 m
   clear m
   refine wP (vB false) (wS (vB false) rfl (Step.pick (t := false) rfl rfl) (wM (vB false) (wM sv_ (wM (vI ↑n_) ?_))))
   refine WL.callX rfl (law12_empties sv_ ss_ ↑n_ (M.enterW0 ⟨((M.wideC0 1 rfl).imp fun _ h => own_slAt h), trivial⟩)) (CallsF.func Tryz.en6 rfl) ?_
   rintro _ w31 ⟨rfl, m⟩
   replace M := M.leaveW0 m
   clear m
   refine wP (vB false) (wS (vB false) rfl (Step.pick (t := false) rfl rfl) (WL.nil ?_))
   refine W.cond (t := false) rfl (fun h => by cases h) (fun _ => ?_)
   refine W.skip (W.region rfl (wM (vI ↑n_) (wS (vI (↑n_ + 4)) rfl (Step.add rfl rfl (wrap_i64 (by omega))) (wA (vI (↑n_ + 4)) (WL.nil ?_)))))
   replace M := M.sel (L' := []) [] rfl (by decide)
   exact ⟨_, (by omega), n_ + 4, ⟨(by omega), (by omega), rfl⟩, ⟨rfl, rfl, rfl⟩, M⟩
 ·
  have h5p := of_decide_eq_false h5
  refine W.exit ?_
  refine thn_exit ?_
  refine thn_exit ?_
  refine inBlk_hit ?_
  refine wR (wA vZ (wA vZ (WL.nil (W.seq' (wR ?_)))))
  refine wA (vI 0) (WL.nil (W.block ?_))
  replace M := M.ownNil 26 3
  replace M : Mem _ _ _ [own 26 3 vZ (([] : List TAct).length) (([] : List TAct).flatMap actE)] [] _ := M
  replace M := M.ownNil 26 3
  replace M : Mem _ _ _ [own 26 3 vZ (([] : List TAct).length) (([] : List TAct).flatMap actE), own 26 3 vZ (([] : List TAct).length) (([] : List TAct).flatMap actE)] [] _ := M
  replace M := M.sel (L' := [own 26 3 vZ (([] : List TAct).length) (([] : List TAct).flatMap actE), own 26 3 vZ (([] : List TAct).length) (([] : List TAct).flatMap actE)]) [0, 1] rfl (by decide)
  refine W.loop (fun kk ρ w' => ∃ (i_ : Nat) (uv_ : Value) (us_ : List TAct) (dv_ : Value) (ds_ : List TAct), ((i_ ≤ 60) ∧ (us_.length = i_) ∧ (ds_.length = i_) ∧ kk = 60 - i_) ∧ ρ.has [(8, uv_), (9, dv_), (10, (vI ↑i_))] ∧ Mem G (fun _ => False) w [own 26 3 uv_ us_.length (us_.flatMap actE), own 26 3 dv_ ds_.length (ds_.flatMap actE)] []  w') _ ⟨0, vZ, ([] : List TAct), vZ, ([] : List TAct), ⟨(Nat.zero_le _), rfl, rfl, rfl⟩, ⟨rfl, rfl, rfl, rfl, rfl⟩, M⟩ ?_
  rintro _ ρ33 w32 ⟨i_, uv_, us_, dv_, ds_, ⟨hi34, hi35, hi36, rfl⟩, hρ, M⟩
  obtain ⟨ρ33, rfl⟩ := hρ.know
  clear hρ
  have sl37 : IsSl uv_ := SlAt.isSl (own_slAt (M.chunk 0 rfl).inv)
  have sl38 : IsSl dv_ := SlAt.isSl (own_slAt (M.chunk 1 rfl).inv)
  have hbus_ : us_.length ≤ 100000 := by omega
  have hbds_ : ds_.length ≤ 100000 := by omega
  refine W.seq' (wR (wM (vI ↑i_) (wP (vB (decide ((↑i_ : Int) < (60 : Int)))) (WL.nil ?_))))
  refine W.cond (t := decide ((↑i_ : Int) < (60 : Int))) rfl (fun h39 => ?_) (fun h39 => ?_)
  ·
   have h39p := of_decide_eq_true h39
   refine W.skip (W.seq' (W.block (wR (wM uv_ (wM (vI ↑i_) ?_)))))
   refine wS (Value.int .u8 (IntKind.u8.wrap (↑i_ : Int))) rfl (Step.conv Tryz.un3 Tryz.un5 rfl rfl) ?_
   refine WL.new (obj := .cells #[(Value.int .u8 (IntKind.u8.wrap (↑i_ : Int)))] 5) (fun b => .slice (some ⟨b, 0, none⟩) 1 1) M rfl (fun w => Step.make (by kernel_rfl)) (fun b40 w41 hb40 M => ?_)
   refine wS (vS (strOfNums ([IntKind.u8.wrap (↑i_ : Int)] : List Int))) rfl (Step.bytesStr [IntKind.u8.wrap (↑i_ : Int)] Tryz.un24 Tryz.un5 Tryz.un9 rfl (M.blk 0 rfl) rfl rfl) (wM (vI ↑i_) (wP (Value.agg #[(vI 0), (vS (strOfNums ([IntKind.u8.wrap (↑i_ : Int)] : List Int))), (vI ↑i_)]) ?_))
   refine WL.new (obj := .cells #[(vI 0), (vS (strOfNums ([IntKind.u8.wrap (↑i_ : Int)] : List Int))), (vI ↑i_)] 26) (fun b => .slice (some ⟨b, 0, none⟩) 1 1) M rfl (fun w => Step.make (by kernel_rfl)) (fun b42 w43 hb42 M => ?_)
   refine WL.does rfl (M.appendF us_ ([(⟨0, strOfNums ([IntKind.u8.wrap (↑i_ : Int)] : List Int), ↑i_⟩ : TAct)] : List TAct) (sv := (Value.slice (some ⟨b42, 0, none⟩) 1 1)) 2 Tryz.un22 Tryz.el26 rfl (by decide) rfl rfl rfl (SlAt.of_blk (M.blk 0 rfl) rfl (by decide)) actE_cel (by have := hbus_; simp only [maxLen, List.length_nil, List.length_cons, List.length_append]; omega) (by have := hbus_; (try simp only [List.length_nil, List.length_cons, List.length_append]); omega)) ?_
   rintro v44 w45 M
   have sl46 : IsSl v44 := SlAt.isSl (own_slAt (M.chunk 2 rfl).inv)
   refine wA v44 (WL.nil (W.region rfl (wM dv_ (wM (vI ↑i_) ?_))))
   obtain ⟨m3_, hm3_, hm3b_⟩ : ∃ m : Nat, ((60 : Int) - ↑i_ : Int) = ↑m ∧ m ≤ 60 := ⟨60 - i_, by omega, by omega⟩
   refine wS (vI ↑m3_) rfl (Step.cast (congrArg (Value.int .i64) hm3_) (Step.sub rfl rfl (wrap_i64 (by omega)))) (wS (Value.int .u8 (IntKind.u8.wrap (↑m3_ : Int))) rfl (Step.conv Tryz.un3 Tryz.un5 rfl rfl) ?_)
   refine WL.new (obj := .cells #[(Value.int .u8 (IntKind.u8.wrap (↑m3_ : Int)))] 5) (fun b => .slice (some ⟨b, 0, none⟩) 1 1) M rfl (fun w => Step.make (by kernel_rfl)) (fun b47 w48 hb47 M => ?_)
   refine wS (vS (strOfNums ([IntKind.u8.wrap (↑m3_ : Int)] : List Int))) rfl (Step.bytesStr [IntKind.u8.wrap (↑m3_ : Int)] Tryz.un24 Tryz.un5 Tryz.un9 rfl (M.blk 0 rfl) rfl rfl) (wM (vI ↑i_) (wP (Value.agg #[(vI 0), (vS (strOfNums ([IntKind.u8.wrap (↑m3_ : Int)] : List Int))), (vI ↑i_)]) ?_))
   refine WL.new (obj := .cells #[(vI 0), (vS (strOfNums ([IntKind.u8.wrap (↑m3_ : Int)] : List Int))), (vI ↑i_)] 26) (fun b => .slice (some ⟨b, 0, none⟩) 1 1) M rfl (fun w => Step.make (by kernel_rfl)) (fun b49 w50 hb49 M => ?_)
   refine WL.does rfl (M.appendF ds_ ([(⟨0, strOfNums ([IntKind.u8.wrap (↑m3_ : Int)] : List Int), ↑i_⟩ : TAct)] : List TAct) (sv := (Value.slice (some ⟨b49, 0, none⟩) 1 1)) 5 Tryz.un22 Tryz.el26 rfl (by decide) rfl rfl rfl (SlAt.of_blk (M.blk 0 rfl) rfl (by decide)) actE_cel (by have := hbds_; simp only [maxLen, List.length_nil, List.length_cons, List.length_append]; omega) (by have := hbds_; (try simp only [List.length_nil, List.length_cons, List.length_append]); omega)) ?_
   rintro v51 w52 M
   have sl53 : IsSl v51 := SlAt.isSl (own_slAt (M.chunk 5 rfl).inv)
   refine wA v51 (WL.nil (W.region rfl (wM (vI ↑i_) (wS (vI (↑i_ + 1)) rfl (Step.add rfl rfl (wrap_i64 (by omega))) (wA (vI (↑i_ + 1)) ?_)))))
   refine WL.nil ?_
   replace M := M.sel (L' := [own 26 3 v44 ((us_ ++ ([(⟨0, strOfNums ([IntKind.u8.wrap (↑i_ : Int)] : List Int), ↑i_⟩ : TAct)] : List TAct)).length) ((us_ ++ ([(⟨0, strOfNums ([IntKind.u8.wrap (↑i_ : Int)] : List Int), ↑i_⟩ : TAct)] : List TAct)).flatMap actE), own 26 3 v51 ((ds_ ++ ([(⟨0, strOfNums ([IntKind.u8.wrap (↑m3_ : Int)] : List Int), ↑i_⟩ : TAct)] : List TAct)).length) ((ds_ ++ ([(⟨0, strOfNums ([IntKind.u8.wrap (↑m3_ : Int)] : List Int), ↑i_⟩ : TAct)] : List TAct)).flatMap actE)]) [4, 5] rfl (by decide)
   exact ⟨_, (by omega), i_ + 1, v44, us_ ++ ([(⟨0, strOfNums ([IntKind.u8.wrap (↑i_ : Int)] : List Int), ↑i_⟩ : TAct)] : List TAct), v51, ds_ ++ ([(⟨0, strOfNums ([IntKind.u8.wrap (↑m3_ : Int)] : List Int), ↑i_⟩ : TAct)] : List TAct), ⟨(by omega), (by simp; omega), (by simp; omega), rfl⟩, ⟨rfl, rfl, rfl, rfl, rfl⟩, M⟩
  ·
   have h39p := of_decide_eq_false h39
   refine W.exit ?_
   refine thn_exit ?_
   refine thn_exit ?_
   refine inBlk_hit ?_
   refine W.seq' (wR (wA (vI 0) (WL.nil (W.block ?_))))
   replace M := M.sel (L' := [own 26 3 uv_ us_.length (us_.flatMap actE), own 26 3 dv_ ds_.length (ds_.flatMap actE)]) [0, 1] rfl (by decide)
   refine W.loop (fun kk ρ w' => ∃ (j_ : Nat) (uw_ : Value) (ut_ : List TAct) (dw_ : Value) (dt_ : List TAct), ((j_ ≤ 60) ∧ (ut_.length = j_ + 60) ∧ (dt_.length = j_ + 60) ∧ kk = 60 - j_) ∧ ρ.has [(8, uw_), (9, dw_), (11, (vI ↑j_))] ∧ Mem G (fun _ => False) w [own 26 3 uw_ ut_.length (ut_.flatMap actE), own 26 3 dw_ dt_.length (dt_.flatMap actE)] []  w') _ ⟨0, uv_, us_, dv_, ds_, ⟨(Nat.zero_le _), (by omega), (by omega), rfl⟩, ⟨rfl, rfl, rfl, rfl, rfl⟩, M⟩ ?_
   rintro _ ρ55 w54 ⟨j_, uw_, ut_, dw_, dt_, ⟨hi56, hi57, hi58, rfl⟩, hρ, M⟩
   obtain ⟨ρ55, rfl⟩ := hρ.know
   clear hρ
   have sl59 : IsSl uw_ := SlAt.isSl (own_slAt (M.chunk 0 rfl).inv)
   have sl60 : IsSl dw_ := SlAt.isSl (own_slAt (M.chunk 1 rfl).inv)
   have hbut_ : ut_.length ≤ 100000 := by omega
   have hbdt_ : dt_.length ≤ 100000 := by omega
   refine W.seq' (wR (wM (vI ↑j_) (wP (vB (decide ((↑j_ : Int) < (60 : Int)))) (WL.nil ?_))))
   refine W.cond (t := decide ((↑j_ : Int) < (60 : Int))) rfl (fun h61 => ?_) (fun h61 => ?_)
   ·
    have h61p := of_decide_eq_true h61
    refine W.skip (W.seq' (W.block (wR (wM uw_ (wM (vI ↑j_) ?_)))))
    refine wS (Value.int .u8 (IntKind.u8.wrap (↑j_ : Int))) rfl (Step.conv Tryz.un3 Tryz.un5 rfl rfl) ?_
    refine WL.new (obj := .cells #[(Value.int .u8 (IntKind.u8.wrap (↑j_ : Int)))] 5) (fun b => .slice (some ⟨b, 0, none⟩) 1 1) M rfl (fun w => Step.make (by kernel_rfl)) (fun b62 w63 hb62 M => ?_)
    refine wS (vS (strOfNums ([IntKind.u8.wrap (↑j_ : Int)] : List Int))) rfl (Step.bytesStr [IntKind.u8.wrap (↑j_ : Int)] Tryz.un24 Tryz.un5 Tryz.un9 rfl (M.blk 0 rfl) rfl rfl) (wP (Value.agg #[(vI 2), (vS (strOfNums ([IntKind.u8.wrap (↑j_ : Int)] : List Int))), (vI 0)]) ?_)
    refine WL.new (obj := .cells #[(vI 2), (vS (strOfNums ([IntKind.u8.wrap (↑j_ : Int)] : List Int))), (vI 0)] 26) (fun b => .slice (some ⟨b, 0, none⟩) 1 1) M rfl (fun w => Step.make (by kernel_rfl)) (fun b64 w65 hb64 M => ?_)
    refine WL.does rfl (M.appendF ut_ ([(⟨2, strOfNums ([IntKind.u8.wrap (↑j_ : Int)] : List Int), 0⟩ : TAct)] : List TAct) (sv := (Value.slice (some ⟨b64, 0, none⟩) 1 1)) 2 Tryz.un22 Tryz.el26 rfl (by decide) rfl rfl rfl (SlAt.of_blk (M.blk 0 rfl) rfl (by decide)) actE_cel (by have := hbut_; simp only [maxLen, List.length_nil, List.length_cons, List.length_append]; omega) (by have := hbut_; (try simp only [List.length_nil, List.length_cons, List.length_append]); omega)) ?_
    rintro v66 w67 M
    have sl68 : IsSl v66 := SlAt.isSl (own_slAt (M.chunk 2 rfl).inv)
    refine wA v66 (WL.nil (W.region rfl (wM dw_ (wM (vI ↑j_) (wS (Value.int .u8 (IntKind.u8.wrap (↑j_ : Int))) rfl (Step.conv Tryz.un3 Tryz.un5 rfl rfl) ?_)))))
    refine WL.new (obj := .cells #[(Value.int .u8 (IntKind.u8.wrap (↑j_ : Int)))] 5) (fun b => .slice (some ⟨b, 0, none⟩) 1 1) M rfl (fun w => Step.make (by kernel_rfl)) (fun b69 w70 hb69 M => ?_)
    refine wS (vS (strOfNums ([IntKind.u8.wrap (↑j_ : Int)] : List Int))) rfl (Step.bytesStr [IntKind.u8.wrap (↑j_ : Int)] Tryz.un24 Tryz.un5 Tryz.un9 rfl (M.blk 0 rfl) rfl rfl) (wP (Value.agg #[(vI 2), (vS (strOfNums ([IntKind.u8.wrap (↑j_ : Int)] : List Int))), (vI 0)]) ?_)
    refine WL.new (obj := .cells #[(vI 2), (vS (strOfNums ([IntKind.u8.wrap (↑j_ : Int)] : List Int))), (vI 0)] 26) (fun b => .slice (some ⟨b, 0, none⟩) 1 1) M rfl (fun w => Step.make (by kernel_rfl)) (fun b71 w72 hb71 M => ?_)
    refine WL.does rfl (M.appendF dt_ ([(⟨2, strOfNums ([IntKind.u8.wrap (↑j_ : Int)] : List Int), 0⟩ : TAct)] : List TAct) (sv := (Value.slice (some ⟨b71, 0, none⟩) 1 1)) 5 Tryz.un22 Tryz.el26 rfl (by decide) rfl rfl rfl (SlAt.of_blk (M.blk 0 rfl) rfl (by decide)) actE_cel (by have := hbdt_; simp only [maxLen, List.length_nil, List.length_cons, List.length_append]; omega) (by have := hbdt_; (try simp only [List.length_nil, List.length_cons, List.length_append]); omega)) ?_
    rintro v73 w74 M
    have sl75 : IsSl v73 := SlAt.isSl (own_slAt (M.chunk 5 rfl).inv)
    refine wA v73 (WL.nil (W.region rfl (wM (vI ↑j_) (wS (vI (↑j_ + 1)) rfl (Step.add rfl rfl (wrap_i64 (by omega))) (wA (vI (↑j_ + 1)) ?_)))))
    refine WL.nil ?_
    replace M := M.sel (L' := [own 26 3 v66 ((ut_ ++ ([(⟨2, strOfNums ([IntKind.u8.wrap (↑j_ : Int)] : List Int), 0⟩ : TAct)] : List TAct)).length) ((ut_ ++ ([(⟨2, strOfNums ([IntKind.u8.wrap (↑j_ : Int)] : List Int), 0⟩ : TAct)] : List TAct)).flatMap actE), own 26 3 v73 ((dt_ ++ ([(⟨2, strOfNums ([IntKind.u8.wrap (↑j_ : Int)] : List Int), 0⟩ : TAct)] : List TAct)).length) ((dt_ ++ ([(⟨2, strOfNums ([IntKind.u8.wrap (↑j_ : Int)] : List Int), 0⟩ : TAct)] : List TAct)).flatMap actE)]) [4, 5] rfl (by decide)
    exact ⟨_, (by omega), j_ + 1, v66, ut_ ++ ([(⟨2, strOfNums ([IntKind.u8.wrap (↑j_ : Int)] : List Int), 0⟩ : TAct)] : List TAct), v73, dt_ ++ ([(⟨2, strOfNums ([IntKind.u8.wrap (↑j_ : Int)] : List Int), 0⟩ : TAct)] : List TAct), ⟨(by omega), (by simp; omega), (by simp; omega), rfl⟩, ⟨rfl, rfl, rfl, rfl, rfl⟩, M⟩
   ·
    have h61p := of_decide_eq_false h61
    refine W.exit ?_
    refine thn_exit ?_
    refine thn_exit ?_
    refine inBlk_hit ?_
    refine wR (wM uw_ ?_)
    refine WL.callX rfl (law12_stands uw_ ut_ (M.enterW0 ⟨((M.wideC0 0 rfl).imp fun _ h => own_slAt h), trivial⟩)) (CallsF.func Tryz.en4 rfl) ?_
    rintro _ w76 ⟨rfl, m⟩
    replace M := M.leaveW0 m
    clear m
    refine wM (vB true) (wM dw_ ?_)
    refine WL.callX rfl (law12_stands dw_ dt_ (M.enterW0 ⟨((M.wideC0 1 rfl).imp fun _ h => own_slAt h), trivial⟩)) (CallsF.func Tryz.en4 rfl) ?_
    rintro _ w77 ⟨rfl, m⟩
    replace M := M.leaveW0 m
    clear m
    refine wS (vB true) rfl (Step.pick (t := true) rfl rfl) (wM (vB true) ?_)
    refine WL.callX rfl (law12_plays vZ ([] : List TAct) sZ (M.enterW0 ⟨(Sh.pure fun w => SlAt.nil 3 w), trivial⟩)) (CallsF.func Tryz.en5 rfl) ?_
    rintro _ w78 ⟨rfl, m⟩
    replace M := M.leaveW0 m
    clear m
    refine wS (vB true) rfl (Step.pick (t := true) rfl rfl) (wM (vB true) ?_)
    refine WL.callX rfl (law12_empties vZ ([] : List ByteArray) 0 (M.enterW0 ⟨(Sh.pure fun w => SlAt.nil 1 w), trivial⟩)) (CallsF.func Tryz.en6 rfl) ?_
    rintro _ w79 ⟨rfl, m⟩
    replace M := M.leaveW0 m
    clear m
    refine wS (vB true) rfl (Step.pick (t := true) rfl rfl) (wM (vB true) ?_)
    refine WL.callX rfl (law12_none (⟨#[97]⟩ : ByteArray) 1 (M.enterW0 trivial)) (CallsF.func Tryz.en7 rfl) ?_
    rintro _ w80 ⟨rfl, m⟩
    replace M := M.leaveW0 m
    clear m
    refine wS (vB true) rfl (Step.pick (t := true) rfl rfl) (wM (vB true) ?_)
    refine WL.callX rfl (l_works  (M.enterW0 trivial)) (CallsF.func Tryz.en8 rfl) ?_
    rintro _ w81 ⟨rfl, m⟩
    replace M := M.leaveW0 m
    clear m
    refine wS (vB true) rfl (Step.pick (t := true) rfl rfl) (wA (vB true) (WL.nil ?_))
    refine W.ret ?_
    refine ⟨.inl rfl, (vB true), ?_, ?_⟩
    · exact ⟨rfl, (Res.r1 (show RV _ _ _ (.tmp 0) (vB true) from by exact rfl))⟩
    refine ⟨?_, M.close [] rfl (by decide) trivial⟩
    rfl
end Go.Proofs
