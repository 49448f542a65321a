/- Proved here: lemmas and walks on which the claim stands (part 4 of 7). No condition. -/
import Derived.Test.YtnlnpfpfggbheaaGreatTk3
set_option linter.all false
set_option maxRecDepth 100000
namespace Go.Proofs
open Go Tp
theorem Tryz.en49 : Enters Tryz.prog 49 := fun _ _ => by kernel_rfl
theorem Tryz.en68 : Enters Tryz.prog 68 := fun _ _ => by kernel_rfl
theorem tr_settle {G X : Nat → Prop} {w : World} (tb ab : Nat) (r : Handle) (fu : Bool) (ln : Int) (l : List RPlace) (S : Nat → Prop) (h : Handle) (kv : Value) (dv : Value) (vv : Value) (n : Nd)  (hA : SmallA l) (hvl : n.vals.length = n.keys.length) (hkd : n.leaf = false → n.kids.length = n.keys.length + 1) (hkn : n.keys.length ≤ 1000) (hdn : n.kids.length ≤ 1000) (hvn : n.vals.length ≤ 1000) (M : Mem G X w [arenaC 107 112 S ab l] [bF tb #[(vP ab), (vI r.at_), (vI r.turn), (vB fu), (vI ln)] 70, fS kv n.keys, fH dv n.kids, fI vv n.vals] w) : Rets Tryz.prog 72 #[(vP tb), (Value.agg #[(vI h.at_), (vI h.turn)]), (Value.agg #[(vB n.leaf), kv, dv, vv])] w fun r w' => ∃ (u' : Value) (S' : Nat → Prop), r = u' ∧ Mem G X w [arenaC 107 112 S' ab ((settleF l h n).1), upC 98 u' ((settleF l h n).2)] [] w' := by
 refine Rets.enter 67 _ Tryz.func72 rfl Tryz.ntmps72 Tryz.results72 (by simp) ?_
 have hle1 := SlAt.le' (M.rep 1 rfl)
 have hle2 := SlAt.le' (M.rep 2 rfl)
 have hle3 := SlAt.le' (M.rep 3 rfl)
 have sl4 : IsSl kv := SlAt.isSl (Mem.rep M 1 rfl)
 have sl5 : IsSl dv := SlAt.isSl (Mem.rep M 2 rfl)
 have sl6 : IsSl vv := SlAt.isSl (Mem.rep M 3 rfl)
 refine wR ?_
 refine WL.box (v := (Value.agg #[(vI h.at_), (vI h.turn)])) (c := #[(vI h.at_), (vI h.turn)]) M rfl rfl rfl (fun b7 w8 hb7 M => ?_)
 refine WL.box (v := (Value.agg #[(vB n.leaf), kv, dv, vv])) (c := #[(vB n.leaf), kv, dv, vv]) M rfl rfl rfl (fun b9 w10 hb9 M => ?_)
 refine wA vN (WL.nil (W.seq' (wR (wP (Value.pointer (some ⟨b9, 1, none⟩)) (wS kv rfl (Step.load1 Tryz.sc23 rfl ((M.cell 0 rfl 1).trans rfl)) ?_)))))
 refine wS (vI ↑n.keys.length) rfl (Step.lenSl Tryz.un23 rfl (M.rep 1 rfl)) (wP (vB (decide ((↑n.keys.length : Int) ≤ (4 : Int)))) (WL.nil ?_))
 refine W.cond (t := decide ((↑n.keys.length : Int) ≤ (4 : Int))) rfl (fun h11 => ?_) (fun h11 => ?_)
 ·
  have h11p := of_decide_eq_true h11
  refine wR (wM (vP tb) (wS (Value.agg #[(vI h.at_), (vI h.turn)]) rfl (Step.loadN Tryz.ag68 rfl (M.blk 1 rfl) (Nat.le_of_ble_eq_true rfl) rfl) (wS (Value.agg #[(vB n.leaf), kv, dv, vv]) rfl (Step.loadN Tryz.ag93 rfl (M.blk 0 rfl) (Nat.le_of_ble_eq_true rfl) rfl) ?_)))
  have fq := M.frm [arenaC 107 112 S ab l] [bk b9 #[(vB n.leaf), kv, dv, vv] 93, bk b7 #[(vI h.at_), (vI h.turn)] 68] [2, 0, 1] rfl
  refine WL.callX rfl (tr_put tb ab r fu ln l S h kv dv vv n (by assumption) (by omega) (by omega) (by omega) (M.eF fq ⟨(M.rF fq 0 rfl), (M.rF fq 1 rfl), (M.rF fq 2 rfl), (M.rF fq 3 rfl), trivial⟩)) (CallsF.func Tryz.en68 rfl) ?_
  rintro _ w13 ⟨S12, rfl, m⟩
  replace M := M.lF fq m
  clear m
  refine WL.nil (wR (wA vN (WL.nil ?_)))
  refine W.ret ?_
  refine ⟨.inl rfl, vN, ?_, ?_⟩
  · exact ⟨rfl, (Res.r1 (show RV _ _ _ (.tmp 6) vN from by exact rfl))⟩
  replace M := M.mkNone (e := 98) (o := (settleF l h n).2) (by rw [settle_small (by omega)])
  have e14 : (settleF l h n).1 = (rput l h n).1 := by
   rw [settle_small (by omega)]
  replace M := M.rechunk 1 (c' := arenaC 107 112 S12 ab ((settleF l h n).1)) rfl (congrArg (fun z => arenaC 107 112 S12 ab z) e14.symm)
  refine ⟨vN, S12, ?_, M.close [1, 0] rfl (by decide) trivial⟩
  rfl
 ·
  have h11p := of_decide_eq_false h11
  refine W.skip (W.seq' ?_)
  have hsh15 := SlAt.shp (M.rep 1 rfl)
  have hsh15c := hsh15
  obtain ⟨_, _, hsh15l, hsh15m⟩ := hsh15c
  have hsh16 := SlAt.shp (M.rep 3 rfl)
  have hsh16c := hsh16
  obtain ⟨_, _, hsh16l, hsh16m⟩ := hsh16c
  refine W.drawn M [0, 1, 2, 3, 4, 5, 6, 7, 8, 9, 10] [10] [9] _ _ (sY (sY (sY sE))) (fun _ h => h) Tryz.mixed (by kernel_rfl) ?_
  refine tP (vP b9) rfl (fun w => sP) ?_
  refine tR (vB n.leaf) rfl (fun A w M => (Step.load1 Tryz.sc4 rfl ((M.cell 1 rfl 0).trans rfl))) ?_
  refine tP (Value.pointer (some ⟨b9, 1, none⟩)) rfl (fun w => sP) ?_
  refine tR kv rfl (fun A w M => (Step.load1 Tryz.sc23 rfl ((M.cell 1 rfl 1).trans rfl))) ?_
  refine tP (vSlice 1 3 n.keys.length (vCap kv) kv) rfl (fun w => (Step.sliceFromP (l := 3) Tryz.un23 Tryz.el9.sized rfl rfl rfl hsh15 (by omega))) ?_
  refine tP (Value.pointer (some ⟨b9, 3, none⟩)) rfl (fun w => sP) ?_
  refine tR vv rfl (fun A w M => (Step.load1 Tryz.sc91 rfl ((M.cell 1 rfl 3).trans rfl))) ?_
  refine tP (vSlice 1 3 n.vals.length (vCap vv) vv) rfl (fun w => (Step.sliceFromP (l := 3) Tryz.un91 Tryz.el3.sized rfl rfl rfl hsh16 (by omega))) ?_
  refine tP (Value.agg #[(vB n.leaf), (vSlice 1 3 n.keys.length (vCap kv) kv), vZ, (vSlice 1 3 n.vals.length (vCap vv) vv)]) rfl (fun w => (by obtain ⟨_, _, _, e⟩ := (vSlice_sl (Shp.isSl hsh15)); rw [e]; obtain ⟨_, _, _, e⟩ := (vSlice_sl (Shp.isSl hsh16)); rw [e]; exact sP)) ?_
  refine TW.new (obj := .cells #[(vB false), vZ, vZ, vZ] 93) (fun b => .pointer (some ⟨b, 0, none⟩)) rfl (by decide) (by decide) rfl (fun w => Step.alloc Tryz.el93.zero) (fun b23 => ?_)
  refine TW.store (v := (Value.agg #[(vB n.leaf), (vSlice 1 3 n.keys.length (vCap kv) kv), vZ, (vSlice 1 3 n.vals.length (vCap vv) vv)])) (cs := [(vB n.leaf), (vSlice 1 3 n.keys.length (vCap kv) kv), vZ, (vSlice 1 3 n.vals.length (vCap vv) vv)]) (c' := #[(vB n.leaf), (vSlice 1 3 n.keys.length (vCap kv) kv), vZ, (vSlice 1 3 n.vals.length (vCap vv) vv)]) 0 rfl rfl (by decide) rfl Tryz.el93.sized rfl rfl rfl rfl (Nat.le_of_ble_eq_true rfl) (cel_cons rfl (cel_cons (IsSl.cel (vSlice_sl (Shp.isSl hsh15))) (cel_cons rfl (cel_cons (IsSl.cel (vSlice_sl (Shp.isSl hsh16))) cel_nil)))) rfl rfl (sN (sY (sY (sY sE)))) (fun r h => h) ?_
  refine TW.done (fun w24 M => ?_)
  refine W.seq' ?_
  refine W.drawn M [0, 1, 2, 3, 4, 5, 6, 7, 8, 9, 10] [10] [9] _ _ (sY (sY (sY (sY sE)))) (fun _ h => h) Tryz.mixed (by kernel_rfl) ?_
  refine tP (vP b9) rfl (fun w => sP) ?_
  refine tR (vB n.leaf) rfl (fun A w M => (Step.load1 Tryz.sc4 rfl ((M.cell 2 rfl 0).trans rfl))) ?_
  refine tP (Value.pointer (some ⟨b9, 1, none⟩)) rfl (fun w => sP) ?_
  refine tR kv rfl (fun A w M => (Step.load1 Tryz.sc23 rfl ((M.cell 2 rfl 1).trans rfl))) ?_
  refine tP (vTake 2 kv) rfl (fun w => (Step.sliceToP (h := 2) Tryz.un23 Tryz.el9.sized rfl rfl rfl hsh15 (by obtain ⟨_, _, _, _⟩ := hsh15; omega))) ?_
  refine tP (Value.pointer (some ⟨b9, 3, none⟩)) rfl (fun w => sP) ?_
  refine tR vv rfl (fun A w M => (Step.load1 Tryz.sc91 rfl ((M.cell 2 rfl 3).trans rfl))) ?_
  refine tP (vTake 2 vv) rfl (fun w => (Step.sliceToP (h := 2) Tryz.un91 Tryz.el3.sized rfl rfl rfl hsh16 (by obtain ⟨_, _, _, _⟩ := hsh16; omega))) ?_
  refine tP (Value.agg #[(vB n.leaf), (vTake 2 kv), vZ, (vTake 2 vv)]) rfl (fun w => (by obtain ⟨_, _, _, e⟩ := (Shp.isSl (Shp.take hsh15 (k := 2) (by obtain ⟨_, _, _, _⟩ := hsh15; omega))); rw [e]; obtain ⟨_, _, _, e⟩ := (Shp.isSl (Shp.take hsh16 (k := 2) (by obtain ⟨_, _, _, _⟩ := hsh16; omega))); rw [e]; exact sP)) ?_
  refine TW.new (obj := .cells #[(vB false), vZ, vZ, vZ] 93) (fun b => .pointer (some ⟨b, 0, none⟩)) rfl (by decide) (by decide) rfl (fun w => Step.alloc Tryz.el93.zero) (fun b31 => ?_)
  refine TW.store (v := (Value.agg #[(vB n.leaf), (vTake 2 kv), vZ, (vTake 2 vv)])) (cs := [(vB n.leaf), (vTake 2 kv), vZ, (vTake 2 vv)]) (c' := #[(vB n.leaf), (vTake 2 kv), vZ, (vTake 2 vv)]) 0 rfl rfl (by decide) rfl Tryz.el93.sized rfl rfl rfl rfl (Nat.le_of_ble_eq_true rfl) (cel_cons rfl (cel_cons (IsSl.cel (Shp.isSl (Shp.take hsh15 (k := 2) (by obtain ⟨_, _, _, _⟩ := hsh15; omega)))) (cel_cons rfl (cel_cons (IsSl.cel (Shp.isSl (Shp.take hsh16 (k := 2) (by obtain ⟨_, _, _, _⟩ := hsh16; omega)))) cel_nil)))) rfl rfl (sN (sY (sY (sY (sY sE))))) (fun r h => h) ?_
  refine TW.done (fun w32 M => ?_)
  refine W.seq' (wR (wP (vP b9) (wS (vB n.leaf) rfl (Step.load1 Tryz.sc4 rfl ((M.cell 2 rfl 0).trans rfl)) (wP (vB !n.leaf) (WL.nil ?_)))))
  refine W.cond (t := !n.leaf) rfl (fun h33 => ?_) (fun h33 => ?_)
  ·
   have hlf_ : n.leaf = false := by simpa using h33
   have hkd_ := hkd hlf_
   have hsh34 := SlAt.shp (M.rep 2 rfl)
   have hsh34c := hsh34
   obtain ⟨_, _, hsh34l, hsh34m⟩ := hsh34c
   refine W.drawn M [0, 1, 2, 3, 4, 5, 6, 7, 8, 9] [7, 9] [] _ _ (sN (sN (sY (sY (sY sE))))) (fun _ h => h) Tryz.mixed (by kernel_rfl) ?_
   refine tP (Value.pointer (some ⟨b9, 2, none⟩)) rfl (fun w => sP) ?_
   refine tR dv rfl (fun A w M => (Step.load1 Tryz.sc90 rfl ((M.cell 1 rfl 2).trans rfl))) ?_
   refine tP (vTake 3 dv) rfl (fun w => (Step.sliceToP (h := 3) Tryz.un90 Tryz.el68.sized rfl rfl rfl hsh34 (by obtain ⟨_, _, _, _⟩ := hsh34; omega))) ?_
   refine tP (Value.pointer (some ⟨b9, 2, none⟩)) rfl (fun w => sP) ?_
   refine tR dv rfl (fun A w M => (Step.load1 Tryz.sc90 rfl ((M.cell 1 rfl 2).trans rfl))) ?_
   refine tP (vSlice 2 3 n.kids.length (vCap dv) dv) rfl (fun w => (Step.sliceFromP (l := 3) Tryz.un90 Tryz.el68.sized rfl rfl rfl hsh34 (by omega))) ?_
   refine tP (Value.pointer (some ⟨b31, 2, none⟩)) rfl (fun w => sP) ?_
   refine TW.store (v := (vTake 3 dv)) (cs := [(vTake 3 dv)]) (c' := #[(vB n.leaf), (vTake 2 kv), (vTake 3 dv), (vTake 2 vv)]) 0 rfl rfl (by decide) rfl Tryz.el90.sized rfl rfl (IsSl.list (Shp.isSl (Shp.take hsh34 (k := 3) (by obtain ⟨_, _, _, _⟩ := hsh34; omega)))) rfl (Nat.le_of_ble_eq_true rfl) (cel_cons (IsSl.cel (Shp.isSl (Shp.take hsh34 (k := 3) (by obtain ⟨_, _, _, _⟩ := hsh34; omega)))) cel_nil) rfl rfl (sN (sN (sY (sY (sY sE))))) (fun r h => h) ?_
   refine tP (Value.pointer (some ⟨b23, 2, none⟩)) rfl (fun w => sP) ?_
   refine TW.store (v := (vSlice 2 3 n.kids.length (vCap dv) dv)) (cs := [(vSlice 2 3 n.kids.length (vCap dv) dv)]) (c' := #[(vB n.leaf), (vSlice 1 3 n.keys.length (vCap kv) kv), (vSlice 2 3 n.kids.length (vCap dv) dv), (vSlice 1 3 n.vals.length (vCap vv) vv)]) 1 rfl rfl (by decide) rfl Tryz.el90.sized rfl rfl (IsSl.list (vSlice_sl (Shp.isSl hsh34))) rfl (Nat.le_of_ble_eq_true rfl) (cel_cons (IsSl.cel (vSlice_sl (Shp.isSl hsh34))) cel_nil) rfl rfl (sN (sN (sY (sY (sY sE))))) (fun r h => h) ?_
   refine TW.done (fun w39 M => ?_)
   refine wR (wM (vP tb) (wS (Value.agg #[(vI h.at_), (vI h.turn)]) rfl (Step.loadN Tryz.ag68 rfl (M.blk 3 rfl) (Nat.le_of_ble_eq_true rfl) rfl) (wS (Value.agg #[(vB n.leaf), (vTake 2 kv), (vTake 3 dv), (vTake 2 vv)]) rfl (Step.loadN Tryz.ag93 rfl (M.blk 0 rfl) (Nat.le_of_ble_eq_true rfl) rfl) ?_)))
   have fq := M.frm [arenaC 107 112 S ab l] [bk b31 #[(vB n.leaf), (vTake 2 kv), (vTake 3 dv), (vTake 2 vv)] 93, bk b23 #[(vB n.leaf), (vSlice 1 3 n.keys.length (vCap kv) kv), (vSlice 2 3 n.kids.length (vCap dv) dv), (vSlice 1 3 n.vals.length (vCap vv) vv)] 93, bk b9 #[(vB n.leaf), kv, dv, vv] 93, bk b7 #[(vI h.at_), (vI h.turn)] 68] [4, 0, 1, 2, 3] rfl
   refine WL.callX rfl (tr_put tb ab r fu ln l S h (vTake 2 kv) (vTake 3 dv) (vTake 2 vv) (⟨n.leaf, n.keys.take 2, n.kids.take 3, n.vals.take 2⟩ : Nd) (by assumption) (by simp [insL] <;> omega) (by simp [insL] <;> omega) (by simp [insL] <;> omega) (M.eF fq ⟨(M.rF fq 0 rfl), (((M.rF fq 1 rfl)).imp fun _ h => slat_take strE_len h (by omega)), (((M.rF fq 2 rfl)).imp fun _ h => slat_take handleE_len h (by omega)), (((M.rF fq 3 rfl)).imp fun _ h => slat_take intE_len h (by omega)), trivial⟩)) (CallsF.func Tryz.en68 rfl) ?_
   rintro _ w41 ⟨S40, rfl, m⟩
   replace M := M.lF fq m
   clear m
   refine WL.nil (W.seq' ?_)
   replace M := M.loseI 4
   replace M := M.loseI 1
   obtain ⟨cap43, hb42⟩ := SlAt.base (M.rep 1 rfl) (by omega)
   obtain ⟨x44, hx44⟩ := elem_of_lt (xs := n.keys) (i := 2) (by omega)
   obtain ⟨cap46, hb45⟩ := SlAt.base (M.rep 3 rfl) (by omega)
   obtain ⟨x47, hx47⟩ := elem_of_lt (xs := n.vals) (i := 2) (by omega)
   refine W.drawn M [0, 1, 2, 3, 4, 5, 6, 7, 8, 9, 10, 11, 12, 13, 14, 15, 16, 17] [14] [16] _ _ (sN (sY (sY sE))) (fun _ h => h) Tryz.mixed (by kernel_rfl) ?_
   refine tP (Value.pointer (some ⟨b9, 1, none⟩)) rfl (fun w => sP) ?_
   refine tR kv rfl (fun A w M => (Step.load1 Tryz.sc23 rfl ((M.cell 2 rfl 1).trans rfl))) ?_
   refine tP (vQ kv 2 1) rfl (fun w => (sX 2 Tryz.un23 Tryz.el9 rfl rfl hb42 rfl)) ?_
   refine tR (vS x44) rfl (fun A w M => (Step.loadE (k := 0) Tryz.sc9 (flat_ec (M.rep 1 rfl) hx44 strE_len) (by decide) rfl rfl)) ?_
   refine tP (Value.pointer (some ⟨b9, 3, none⟩)) rfl (fun w => sP) ?_
   refine tR vv rfl (fun A w M => (Step.load1 Tryz.sc91 rfl ((M.cell 2 rfl 3).trans rfl))) ?_
   refine tP (vQ vv 2 1) rfl (fun w => (sX 2 Tryz.un91 Tryz.el3 rfl rfl hb45 rfl)) ?_
   refine tR (vI x47) rfl (fun A w M => (Step.loadE (k := 0) Tryz.sc3 (flat_ec (M.rep 3 rfl) hx47 intE_len) (by decide) rfl rfl)) ?_
   refine tP (Value.agg #[(vS x44), (vI x47)]) rfl (fun w => sP) ?_
   refine tP (vP tb) rfl (fun w => (Step.move rfl)) ?_
   refine tP (vP tb) rfl (fun w => sP) ?_
   refine tP (vP tb) rfl (fun w => sP) ?_
   refine tR (vP ab) rfl (fun A w M => (Step.load1 Tryz.sc65 rfl ((cell_blk (M.rep 0 rfl) 0).trans rfl))) ?_
   refine tR (Value.agg #[(vB n.leaf), (vSlice 1 3 n.keys.length (vCap kv) kv), (vSlice 2 3 n.kids.length (vCap dv) dv), (vSlice 1 3 n.vals.length (vCap vv) vv)]) rfl (fun A w M => (Step.loadN Tryz.ag93 rfl (M.blk 1 rfl) (Nat.le_of_ble_eq_true rfl) rfl)) ?_
   let Q : List Chunk := [bk b23 #[(vB n.leaf), (vSlice 1 3 n.keys.length (vCap kv) kv), (vSlice 2 3 n.kids.length (vCap dv) dv), (vSlice 1 3 n.vals.length (vCap vv) vv)] 93, bk b9 #[(vB n.leaf), kv, dv, vv] 93]
   refine TW.callX (ι := (Nat → Prop)) (fun jx v_ => v_ = (Value.agg #[(vI (((rmake ((rput l h (⟨n.leaf, n.keys.take 2, n.kids.take 3, n.vals.take 2⟩ : Nd)).1) (⟨n.leaf, (n.keys.drop 3).take (n.keys.length - 3), (n.kids.drop 3).take (n.kids.length - 3), (n.vals.drop 3).take (n.vals.length - 3)⟩ : Nd)).2).at_)), (vI (((rmake ((rput l h (⟨n.leaf, n.keys.take 2, n.kids.take 3, n.vals.take 2⟩ : Nd)).1) (⟨n.leaf, (n.keys.drop 3).take (n.keys.length - 3), (n.kids.drop 3).take (n.kids.length - 3), (n.vals.drop 3).take (n.vals.length - 3)⟩ : Nd)).2).turn))])) (fun jx => arenaC 107 112 jx ab ((rmake ((rput l h (⟨n.leaf, n.keys.take 2, n.kids.take 3, n.vals.take 2⟩ : Nd)).1) (⟨n.leaf, (n.keys.drop 3).take (n.keys.length - 3), (n.kids.drop 3).take (n.kids.length - 3), (n.vals.drop 3).take (n.vals.length - 3)⟩ : Nd)).1) :: Q) (fun jx => [bF tb #[(vP ab), (vI r.at_), (vI r.turn), (vB fu), (vI ln)] 70, fS kv n.keys, fH dv n.kids, fI vv n.vals]) rfl (by decide) rfl (fun jx => (sN (sY (sY sE)))) (fun jx r h => h) (fun A w M => have fq := M.frm [arenaC 107 112 S40 ab ((rput l h (⟨n.leaf, n.keys.take 2, n.kids.take 3, n.vals.take 2⟩ : Nd)).1)] (fl A :: Q) [1, 0, 2, 3] rfl; Rets.mono (ar_make ab ((rput l h (⟨n.leaf, n.keys.take 2, n.kids.take 3, n.vals.take 2⟩ : Nd)).1) S40 (vSlice 1 3 n.keys.length (vCap kv) kv) (vSlice 2 3 n.kids.length (vCap dv) dv) (vSlice 1 3 n.vals.length (vCap vv) vv) (⟨n.leaf, (n.keys.drop 3).take (n.keys.length - 3), (n.kids.drop 3).take (n.kids.length - 3), (n.vals.drop 3).take (n.vals.length - 3)⟩ : Nd) (by first | assumption | exact SmallA.put (by assumption) (by first | omega | (simp [insL] <;> omega)) (by first | omega | (simp [insL] <;> omega)) (by first | omega | (simp [insL] <;> omega))) (by simp [insL] <;> omega) (by simp [insL] <;> omega) (by simp [insL] <;> omega) (M.eF fq ⟨(((M.rF fq 1 rfl)).imp fun _ h => slat_sliceF strE_len (l := 3) (h := n.keys.length) h (by omega) (by omega) (Nat.le_trans (by omega) (SlAt.cap h).1) (Nat.le_refl _)), (((M.rF fq 2 rfl)).imp fun _ h => slat_sliceF handleE_len (l := 3) (h := n.kids.length) h (by omega) (by omega) (Nat.le_trans (by omega) (SlAt.cap h).1) (Nat.le_refl _)), (((M.rF fq 3 rfl)).imp fun _ h => slat_sliceF intE_len (l := 3) (h := n.vals.length) h (by omega) (by omega) (Nat.le_trans (by omega) (SlAt.cap h).1) (Nat.le_refl _)), trivial⟩)) (fun v_ w_ ⟨S54, e_, m⟩ => ⟨S54, e_, (M.lF fq m).sel [1, 0, 2, 3] rfl (by decide), fun b hb => M.kF fq m b hb⟩)) (fun w => CallsF.func Tryz.en49 rfl) (fun S54 v hp hin => ?_)
   replace hp := hp.symm; subst hp
   obtain ⟨_, _, hin⟩ := hin
   clear hin
   refine tP (Value.agg #[(vS x44), (vI x47), (vI (((rmake ((rput l h (⟨n.leaf, n.keys.take 2, n.kids.take 3, n.vals.take 2⟩ : Nd)).1) (⟨n.leaf, (n.keys.drop 3).take (n.keys.length - 3), (n.kids.drop 3).take (n.kids.length - 3), (n.vals.drop 3).take (n.vals.length - 3)⟩ : Nd)).2).at_)), (vI (((rmake ((rput l h (⟨n.leaf, n.keys.take 2, n.kids.take 3, n.vals.take 2⟩ : Nd)).1) (⟨n.leaf, (n.keys.drop 3).take (n.keys.length - 3), (n.kids.drop 3).take (n.kids.length - 3), (n.vals.drop 3).take (n.vals.length - 3)⟩ : Nd)).2).turn))]) rfl (fun w => sP) ?_
   refine TW.new (obj := .cells #[(vS x44), (vI x47), (vI (((rmake ((rput l h (⟨n.leaf, n.keys.take 2, n.kids.take 3, n.vals.take 2⟩ : Nd)).1) (⟨n.leaf, (n.keys.drop 3).take (n.keys.length - 3), (n.kids.drop 3).take (n.kids.length - 3), (n.vals.drop 3).take (n.vals.length - 3)⟩ : Nd)).2).at_)), (vI (((rmake ((rput l h (⟨n.leaf, n.keys.take 2, n.kids.take 3, n.vals.take 2⟩ : Nd)).1) (⟨n.leaf, (n.keys.drop 3).take (n.keys.length - 3), (n.kids.drop 3).take (n.kids.length - 3), (n.vals.drop 3).take (n.vals.length - 3)⟩ : Nd)).2).turn))] 98) (fun b => .pointer (some ⟨b, 0, none⟩)) rfl (by decide) (by decide) rfl (fun w => Step.box (v := (Value.agg #[(vS x44), (vI x47), (vI (((rmake ((rput l h (⟨n.leaf, n.keys.take 2, n.kids.take 3, n.vals.take 2⟩ : Nd)).1) (⟨n.leaf, (n.keys.drop 3).take (n.keys.length - 3), (n.kids.drop 3).take (n.kids.length - 3), (n.vals.drop 3).take (n.vals.length - 3)⟩ : Nd)).2).at_)), (vI (((rmake ((rput l h (⟨n.leaf, n.keys.take 2, n.kids.take 3, n.vals.take 2⟩ : Nd)).1) (⟨n.leaf, (n.keys.drop 3).take (n.keys.length - 3), (n.kids.drop 3).take (n.kids.length - 3), (n.vals.drop 3).take (n.vals.length - 3)⟩ : Nd)).2).turn))])) rfl) (fun b55 => ?_)
   refine tP (vP b55) rfl (fun w => (Step.assign rfl)) ?_
   refine TW.done (fun w56 M => ?_)
   refine W.ret ?_
   refine ⟨.inl rfl, (vP b55), ?_, ?_⟩
   · exact ⟨rfl, (Res.r1 (show RV _ _ _ (.tmp 6) (vP b55) from by exact rfl))⟩
   replace M := M.mkSome (o := (settleF l h n).2) (u := ((⟨x44, x47⟩ : THit), ((rmake ((rput l h (⟨n.leaf, n.keys.take 2, n.kids.take 3, n.vals.take 2⟩ : Nd)).1) (⟨n.leaf, (n.keys.drop 3).take (n.keys.length - 3), (n.kids.drop 3).take (n.kids.length - 3), (n.vals.drop 3).take (n.vals.length - 3)⟩ : Nd)).2))) 0 rfl (by rw [settle_big (by omega)]; simp [hlf_, drop_rest, h11p, h33, hx44, hx47]) rfl
   have e57 : (settleF l h n).1 = (rmake ((rput l h (⟨n.leaf, n.keys.take 2, n.kids.take 3, n.vals.take 2⟩ : Nd)).1) (⟨n.leaf, (n.keys.drop 3).take (n.keys.length - 3), (n.kids.drop 3).take (n.kids.length - 3), (n.vals.drop 3).take (n.vals.length - 3)⟩ : Nd)).1 := by
    rw [settle_big (by omega)]
    simp [hlf_, drop_rest, h11p, h33, hx44, hx47]
   replace M := M.rechunk 1 (c' := arenaC 107 112 S54 ab ((settleF l h n).1)) rfl (congrArg (fun z => arenaC 107 112 S54 ab z) e57.symm)
   refine ⟨(vP b55), S54, ?_, M.close [1, 0] rfl (by decide) trivial⟩
   rfl
  ·
   have hlf_ : n.leaf = true := by simpa using h33
   refine W.skip (wR (wM (vP tb) (wS (Value.agg #[(vI h.at_), (vI h.turn)]) rfl (Step.loadN Tryz.ag68 rfl (M.blk 3 rfl) (Nat.le_of_ble_eq_true rfl) rfl) (wS (Value.agg #[(vB n.leaf), (vTake 2 kv), vZ, (vTake 2 vv)]) rfl (Step.loadN Tryz.ag93 rfl (M.blk 0 rfl) (Nat.le_of_ble_eq_true rfl) rfl) ?_))))
   have fq := M.frm [arenaC 107 112 S ab l] [bk b31 #[(vB n.leaf), (vTake 2 kv), vZ, (vTake 2 vv)] 93, bk b23 #[(vB n.leaf), (vSlice 1 3 n.keys.length (vCap kv) kv), vZ, (vSlice 1 3 n.vals.length (vCap vv) vv)] 93, bk b9 #[(vB n.leaf), kv, dv, vv] 93, bk b7 #[(vI h.at_), (vI h.turn)] 68] [4, 0, 1, 2, 3] rfl
   refine WL.callX rfl (tr_put tb ab r fu ln l S h (vTake 2 kv) vZ (vTake 2 vv) (⟨n.leaf, n.keys.take 2, ([] : List Handle), n.vals.take 2⟩ : Nd) (by assumption) (by simp [insL] <;> omega) (by simp [insL] <;> omega) (by simp [insL] <;> omega) (M.eF fq ⟨(M.rF fq 0 rfl), (((M.rF fq 1 rfl)).imp fun _ h => slat_take strE_len h (by omega)), (Sh.pure fun w => SlAt.nil 2 w), (((M.rF fq 3 rfl)).imp fun _ h => slat_take intE_len h (by omega)), trivial⟩)) (CallsF.func Tryz.en68 rfl) ?_
   rintro _ w59 ⟨S58, rfl, m⟩
   replace M := M.lF fq m
   clear m
   refine WL.nil (W.seq' ?_)
   replace M := M.loseI 4
   replace M := M.loseI 1
   obtain ⟨cap61, hb60⟩ := SlAt.base (M.rep 1 rfl) (by omega)
   obtain ⟨x62, hx62⟩ := elem_of_lt (xs := n.keys) (i := 2) (by omega)
   obtain ⟨cap64, hb63⟩ := SlAt.base (M.rep 3 rfl) (by omega)
   obtain ⟨x65, hx65⟩ := elem_of_lt (xs := n.vals) (i := 2) (by omega)
   refine W.drawn M [0, 1, 2, 3, 4, 5, 6, 7, 8, 9, 10, 11, 12, 13, 14, 15, 16, 17] [14] [16] _ _ (sN (sY (sY sE))) (fun _ h => h) Tryz.mixed (by kernel_rfl) ?_
   refine tP (Value.pointer (some ⟨b9, 1, none⟩)) rfl (fun w => sP) ?_
   refine tR kv rfl (fun A w M => (Step.load1 Tryz.sc23 rfl ((M.cell 2 rfl 1).trans rfl))) ?_
   refine tP (vQ kv 2 1) rfl (fun w => (sX 2 Tryz.un23 Tryz.el9 rfl rfl hb60 rfl)) ?_
   refine tR (vS x62) rfl (fun A w M => (Step.loadE (k := 0) Tryz.sc9 (flat_ec (M.rep 1 rfl) hx62 strE_len) (by decide) rfl rfl)) ?_
   refine tP (Value.pointer (some ⟨b9, 3, none⟩)) rfl (fun w => sP) ?_
   refine tR vv rfl (fun A w M => (Step.load1 Tryz.sc91 rfl ((M.cell 2 rfl 3).trans rfl))) ?_
   refine tP (vQ vv 2 1) rfl (fun w => (sX 2 Tryz.un91 Tryz.el3 rfl rfl hb63 rfl)) ?_
   refine tR (vI x65) rfl (fun A w M => (Step.loadE (k := 0) Tryz.sc3 (flat_ec (M.rep 3 rfl) hx65 intE_len) (by decide) rfl rfl)) ?_
   refine tP (Value.agg #[(vS x62), (vI x65)]) rfl (fun w => sP) ?_
   refine tP (vP tb) rfl (fun w => (Step.move rfl)) ?_
   refine tP (vP tb) rfl (fun w => sP) ?_
   refine tP (vP tb) rfl (fun w => sP) ?_
   refine tR (vP ab) rfl (fun A w M => (Step.load1 Tryz.sc65 rfl ((cell_blk (M.rep 0 rfl) 0).trans rfl))) ?_
   refine tR (Value.agg #[(vB n.leaf), (vSlice 1 3 n.keys.length (vCap kv) kv), vZ, (vSlice 1 3 n.vals.length (vCap vv) vv)]) rfl (fun A w M => (Step.loadN Tryz.ag93 rfl (M.blk 1 rfl) (Nat.le_of_ble_eq_true rfl) rfl)) ?_
   let Q : List Chunk := [bk b23 #[(vB n.leaf), (vSlice 1 3 n.keys.length (vCap kv) kv), vZ, (vSlice 1 3 n.vals.length (vCap vv) vv)] 93, bk b9 #[(vB n.leaf), kv, dv, vv] 93]
   refine TW.callX (ι := (Nat → Prop)) (fun jx v_ => v_ = (Value.agg #[(vI (((rmake ((rput l h (⟨n.leaf, n.keys.take 2, ([] : List Handle), n.vals.take 2⟩ : Nd)).1) (⟨n.leaf, (n.keys.drop 3).take (n.keys.length - 3), ([] : List Handle), (n.vals.drop 3).take (n.vals.length - 3)⟩ : Nd)).2).at_)), (vI (((rmake ((rput l h (⟨n.leaf, n.keys.take 2, ([] : List Handle), n.vals.take 2⟩ : Nd)).1) (⟨n.leaf, (n.keys.drop 3).take (n.keys.length - 3), ([] : List Handle), (n.vals.drop 3).take (n.vals.length - 3)⟩ : Nd)).2).turn))])) (fun jx => arenaC 107 112 jx ab ((rmake ((rput l h (⟨n.leaf, n.keys.take 2, ([] : List Handle), n.vals.take 2⟩ : Nd)).1) (⟨n.leaf, (n.keys.drop 3).take (n.keys.length - 3), ([] : List Handle), (n.vals.drop 3).take (n.vals.length - 3)⟩ : Nd)).1) :: Q) (fun jx => [bF tb #[(vP ab), (vI r.at_), (vI r.turn), (vB fu), (vI ln)] 70, fS kv n.keys, fH dv n.kids, fI vv n.vals]) rfl (by decide) rfl (fun jx => (sN (sY (sY sE)))) (fun jx r h => h) (fun A w M => have fq := M.frm [arenaC 107 112 S58 ab ((rput l h (⟨n.leaf, n.keys.take 2, ([] : List Handle), n.vals.take 2⟩ : Nd)).1)] (fl A :: Q) [1, 0, 2, 3] rfl; Rets.mono (ar_make ab ((rput l h (⟨n.leaf, n.keys.take 2, ([] : List Handle), n.vals.take 2⟩ : Nd)).1) S58 (vSlice 1 3 n.keys.length (vCap kv) kv) vZ (vSlice 1 3 n.vals.length (vCap vv) vv) (⟨n.leaf, (n.keys.drop 3).take (n.keys.length - 3), ([] : List Handle), (n.vals.drop 3).take (n.vals.length - 3)⟩ : Nd) (by first | assumption | exact SmallA.put (by assumption) (by first | omega | (simp [insL] <;> omega)) (by first | omega | (simp [insL] <;> omega)) (by first | omega | (simp [insL] <;> omega))) (by simp [insL] <;> omega) (by simp [insL] <;> omega) (by simp [insL] <;> omega) (M.eF fq ⟨(((M.rF fq 1 rfl)).imp fun _ h => slat_sliceF strE_len (l := 3) (h := n.keys.length) h (by omega) (by omega) (Nat.le_trans (by omega) (SlAt.cap h).1) (Nat.le_refl _)), (Sh.pure fun w => SlAt.nil 2 w), (((M.rF fq 3 rfl)).imp fun _ h => slat_sliceF intE_len (l := 3) (h := n.vals.length) h (by omega) (by omega) (Nat.le_trans (by omega) (SlAt.cap h).1) (Nat.le_refl _)), trivial⟩)) (fun v_ w_ ⟨S72, e_, m⟩ => ⟨S72, e_, (M.lF fq m).sel [1, 0, 2, 3] rfl (by decide), fun b hb => M.kF fq m b hb⟩)) (fun w => CallsF.func Tryz.en49 rfl) (fun S72 v hp hin => ?_)
   replace hp := hp.symm; subst hp
   obtain ⟨_, _, hin⟩ := hin
   clear hin
   refine tP (Value.agg #[(vS x62), (vI x65), (vI (((rmake ((rput l h (⟨n.leaf, n.keys.take 2, ([] : List Handle), n.vals.take 2⟩ : Nd)).1) (⟨n.leaf, (n.keys.drop 3).take (n.keys.length - 3), ([] : List Handle), (n.vals.drop 3).take (n.vals.length - 3)⟩ : Nd)).2).at_)), (vI (((rmake ((rput l h (⟨n.leaf, n.keys.take 2, ([] : List Handle), n.vals.take 2⟩ : Nd)).1) (⟨n.leaf, (n.keys.drop 3).take (n.keys.length - 3), ([] : List Handle), (n.vals.drop 3).take (n.vals.length - 3)⟩ : Nd)).2).turn))]) rfl (fun w => sP) ?_
   refine TW.new (obj := .cells #[(vS x62), (vI x65), (vI (((rmake ((rput l h (⟨n.leaf, n.keys.take 2, ([] : List Handle), n.vals.take 2⟩ : Nd)).1) (⟨n.leaf, (n.keys.drop 3).take (n.keys.length - 3), ([] : List Handle), (n.vals.drop 3).take (n.vals.length - 3)⟩ : Nd)).2).at_)), (vI (((rmake ((rput l h (⟨n.leaf, n.keys.take 2, ([] : List Handle), n.vals.take 2⟩ : Nd)).1) (⟨n.leaf, (n.keys.drop 3).take (n.keys.length - 3), ([] : List Handle), (n.vals.drop 3).take (n.vals.length - 3)⟩ : Nd)).2).turn))] 98) (fun b => .pointer (some ⟨b, 0, none⟩)) rfl (by decide) (by decide) rfl (fun w => Step.box (v := (Value.agg #[(vS x62), (vI x65), (vI (((rmake ((rput l h (⟨n.leaf, n.keys.take 2, ([] : List Handle), n.vals.take 2⟩ : Nd)).1) (⟨n.leaf, (n.keys.drop 3).take (n.keys.length - 3), ([] : List Handle), (n.vals.drop 3).take (n.vals.length - 3)⟩ : Nd)).2).at_)), (vI (((rmake ((rput l h (⟨n.leaf, n.keys.take 2, ([] : List Handle), n.vals.take 2⟩ : Nd)).1) (⟨n.leaf, (n.keys.drop 3).take (n.keys.length - 3), ([] : List Handle), (n.vals.drop 3).take (n.vals.length - 3)⟩ : Nd)).2).turn))])) rfl) (fun b73 => ?_)
   refine tP (vP b73) rfl (fun w => (Step.assign rfl)) ?_
   refine TW.done (fun w74 M => ?_)
   refine W.ret ?_
   refine ⟨.inl rfl, (vP b73), ?_, ?_⟩
   · exact ⟨rfl, (Res.r1 (show RV _ _ _ (.tmp 6) (vP b73) from by exact rfl))⟩
   replace M := M.mkSome (o := (settleF l h n).2) (u := ((⟨x62, x65⟩ : THit), ((rmake ((rput l h (⟨n.leaf, n.keys.take 2, ([] : List Handle), n.vals.take 2⟩ : Nd)).1) (⟨n.leaf, (n.keys.drop 3).take (n.keys.length - 3), ([] : List Handle), (n.vals.drop 3).take (n.vals.length - 3)⟩ : Nd)).2))) 0 rfl (by rw [settle_big (by omega)]; simp [hlf_, drop_rest, h11p, h33, hx62, hx65]) rfl
   have e75 : (settleF l h n).1 = (rmake ((rput l h (⟨n.leaf, n.keys.take 2, ([] : List Handle), n.vals.take 2⟩ : Nd)).1) (⟨n.leaf, (n.keys.drop 3).take (n.keys.length - 3), ([] : List Handle), (n.vals.drop 3).take (n.vals.length - 3)⟩ : Nd)).1 := by
    rw [settle_big (by omega)]
    simp [hlf_, drop_rest, h11p, h33, hx62, hx65]
   replace M := M.rechunk 1 (c' := arenaC 107 112 S72 ab ((settleF l h n).1)) rfl (congrArg (fun z => arenaC 107 112 S72 ab z) e75.symm)
   refine ⟨(vP b73), S72, ?_, M.close [1, 0] rfl (by decide) trivial⟩
   rfl
end Go.Proofs
set_option maxRecDepth 100000
namespace Go.Proofs
open Go Tp
theorem Tryz.ag55 : Aggr Tryz.prog 55 2 := ⟨fun _ => by kernel_rfl, fun _ => by kernel_rfl⟩
theorem Tryz.en50 : Enters Tryz.prog 50 := fun _ _ => by kernel_rfl
theorem Tryz.en52 : Enters Tryz.prog 52 := fun _ _ => by kernel_rfl
theorem Tryz.en67 : Enters Tryz.prog 67 := fun _ _ => by kernel_rfl
theorem Tryz.en69 : Enters Tryz.prog 69 := fun _ _ => by kernel_rfl
theorem Tryz.en70 : Enters Tryz.prog 70 := fun _ _ => by kernel_rfl
theorem Tryz.en71 : Enters Tryz.prog 71 := fun _ _ => by kernel_rfl
theorem Tryz.en72 : Enters Tryz.prog 72 := fun _ _ => by kernel_rfl
theorem tr_insert : ∀ (d : Nat) {G X : Nat → Prop} {w : World} (tb ab : Nat) (r : Handle) (fu : Bool) (ln : Int) (l : List RPlace) (S : Nat → Prop) (h : Handle) (x : THit)  (hO : insOk d l h x) (M : Mem G X w [arenaC 107 112 S ab l] [bF tb #[(vP ab), (vI r.at_), (vI r.turn), (vB fu), (vI ln)] 70] w), Rets Tryz.prog 50 #[(vP tb), (Value.agg #[(vI h.at_), (vI h.turn)]), (Value.agg #[(vS x.key), (vI x.val)])] w fun r w' => ∃ (u' : Value) (S' : Nat → Prop), r = (Value.tuple #[(vI ((insF d l h x).2.1.1)), (vB ((insF d l h x).2.1.2)), u']) ∧ Mem G X w [arenaC 107 112 S' ab ((insF d l h x).1), upC 98 u' ((insF d l h x).2.2)] [] w' := by
 intro d
 induction d using Nat.strongRecOn
 rename_i d ih
 intro G X w tb ab r fu ln l S h x hO M
 refine Rets.enter 115 _ Tryz.func50 rfl Tryz.ntmps50 Tryz.results50 (by simp) ?_
 obtain ⟨n, hn⟩ : ∃ n, (rget l h).1 = n := ⟨_, rfl⟩
 obtain ⟨hA, hty, hvl, hup⟩ := insOk_node hO hn
 obtain ⟨ht1, ht2, ht3⟩ := hty
 have hbi_ := bsI_le n.keys x.key
 refine wR ?_
 refine WL.box (v := (Value.agg #[(vI h.at_), (vI h.turn)])) (c := #[(vI h.at_), (vI h.turn)]) M rfl rfl rfl (fun b1 w2 hb1 M => ?_)
 refine WL.box (v := (Value.agg #[(vS x.key), (vI x.val)])) (c := #[(vS x.key), (vI x.val)]) M rfl rfl rfl (fun b3 w4 hb3 M => ?_)
 refine wA (vI 0) (wA (vB false) (wA vN (WL.nil (wR (wM (vP tb) ?_)))))
 refine wS (Value.agg #[(vI h.at_), (vI h.turn)]) rfl (Step.loadN Tryz.ag68 rfl (M.blk 1 rfl) (Nat.le_of_ble_eq_true rfl) rfl) ?_
 have fq := M.frm [arenaC 107 112 S ab l] [bk b3 #[(vS x.key), (vI x.val)] 55, bk b1 #[(vI h.at_), (vI h.turn)] 68] [2, 0, 1] rfl
 refine WL.callX rfl (tr_node tb ab r fu ln l S h (by assumption) n hn (M.eF fq ⟨(M.rF fq 0 rfl), trivial⟩)) (CallsF.func Tryz.en52 rfl) ?_
 rintro _ w8 ⟨kv5, dv6, vv7, rfl, m⟩
 replace M := M.lF fq m
 clear m
 have sl9 : IsSl kv5 := SlAt.isSl (own_slAt (Mem.chunk M 1 rfl).inv)
 have hle10 := SlAt.le' (own_slAt (Mem.chunk M 1 rfl).inv)
 have sl11 : IsSl dv6 := SlAt.isSl (own_slAt (Mem.chunk M 2 rfl).inv)
 have hle12 := SlAt.le' (own_slAt (Mem.chunk M 2 rfl).inv)
 have sl13 : IsSl vv7 := SlAt.isSl (own_slAt (Mem.chunk M 3 rfl).inv)
 have hle14 := SlAt.le' (own_slAt (Mem.chunk M 3 rfl).inv)
 refine WL.alloc (c := #[(vB false), vZ, vZ, vZ]) M rfl Tryz.el93.zero rfl (fun b15 w16 hb15 M => ?_)
 refine WL.store (v := (Value.agg #[(vB n.leaf), kv5, dv6, vv7])) (cs := [(vB n.leaf), kv5, dv6, vv7]) (c' := #[(vB n.leaf), kv5, dv6, vv7]) M 0 rfl rfl Tryz.el93.sized rfl rfl rfl rfl (Nat.le_of_ble_eq_true rfl) (cel_cons rfl (cel_cons (IsSl.cel sl9) (cel_cons (IsSl.cel sl11) (cel_cons (IsSl.cel sl13) cel_nil)))) rfl rfl (fun w17 M => ?_)
 refine WL.nil (wR (wP (Value.pointer (some ⟨b15, 1, none⟩)) (wS kv5 rfl (Step.load1 Tryz.sc23 rfl ((M.cell 0 rfl 1).trans rfl)) (wP (vP b3) (wS (vS x.key) rfl (Step.load1 Tryz.sc9 rfl ((M.cell 5 rfl 0).trans rfl)) ?_)))))
 refine WL.callX rfl (bs_str kv5 n.keys x.key (by omega) (by assumption) (M.enterW0 ⟨((M.wideC0 2 rfl).imp fun _ h => own_slAt h), trivial⟩)) (CallsF.func Tryz.en67 rfl) ?_
 rintro _ w18 ⟨rfl, m⟩
 replace M := M.leaveW0 m
 clear m
 refine wM (Value.tuple #[(vI (↑(bsI n.keys x.key))), (vB (bsF n.keys x.key))]) (wP (vI (↑(bsI n.keys x.key))) (wP (vB (bsF n.keys x.key)) (wA (vI (↑(bsI n.keys x.key))) (wA (vB (bsF n.keys x.key)) (WL.nil ?_)))))
 refine W.seq' (W.block (wR (wM (vB (bsF n.keys x.key)) (wA (vB (bsF n.keys x.key)) (WL.nil ?_)))))
 refine W.cond (t := bsF n.keys x.key) rfl (fun h19 => ?_) (fun h19 => ?_)
 ·
  have hbl_ := bsF_lt h19
  refine W.seq' ?_
  obtain ⟨cap21, hb20⟩ := SlAt.base (own_slAt (M.chunk 4 rfl).inv) (by omega)
  obtain ⟨x22, hx22⟩ := elem_of_lt (xs := n.vals) (i := bsI n.keys x.key) (by omega)
  obtain ⟨pre23, post24, hcs25, hpre26, hback27⟩ := flat_open intE_len hx22
  replace M := M.rechunk 4 (c' := own 3 1 vv7 n.vals.length (pre23 ++ ([(vI x22)] ++ post24))) rfl (by show own 3 1 vv7 n.vals.length (n.vals.flatMap intE) = _; rw [hcs25]; rfl)
  refine W.drawn2 M [0, 1, 2, 3, 4, 5, 6, 7, 8, 9, 10] [11, 12] [12] [] _ _ (sY (sY (sY (sY (sY (sY (sY sE))))))) (fun _ h => h) Tryz.mixed (by kernel_rfl) ?_
  refine tP (Value.pointer (some ⟨b15, 3, none⟩)) rfl (fun w => sP) ?_
  refine tR vv7 rfl (fun A w M => (Step.load1 Tryz.sc91 rfl ((M.cell 1 rfl 3).trans rfl))) ?_
  refine tP (vI (↑(bsI n.keys x.key))) rfl (fun w => (Step.move rfl)) ?_
  refine tP (Value.pointer (some ⟨b15, 3, none⟩)) rfl (fun w => sP) ?_
  refine tR vv7 rfl (fun A w M => (Step.load1 Tryz.sc91 rfl ((M.cell 1 rfl 3).trans rfl))) ?_
  refine tP (vI (↑(bsI n.keys x.key))) rfl (fun w => (Step.move rfl)) ?_
  refine tP (vQ vv7 (bsI n.keys x.key) 1) rfl (fun w => (sX (bsI n.keys x.key) Tryz.un91 Tryz.el3 rfl rfl hb20)) ?_
  refine tR (vI x22) rfl (fun A w M => (Step.loadE (k := 0) Tryz.sc3 (ec_open (own_slAt (M.chunk 5 rfl).inv) hpre26 rfl (by first | omega | (simp only [List.length_set, List.length_append, List.length_cons, List.length_nil]; omega))) (by decide) rfl rfl)) ?_
  refine tP (Value.pointer (some ⟨b3, 1, none⟩)) rfl (fun w => sP) ?_
  refine tR (vI x.val) rfl (fun A w M => (Step.load1 Tryz.sc3 rfl ((M.cell 6 rfl 1).trans rfl))) ?_
  refine tP (vI x22) rfl (fun w => (Step.assign rfl)) ?_
  refine TW.turn _ _ (sY (sY (sY (sY (sN (sY (sY sE))))))) (fun _ h => h) ?_
  refine tP (vQ vv7 (bsI n.keys x.key) 1) rfl (fun w => (sX (bsI n.keys x.key) Tryz.un91 Tryz.el3 rfl rfl hb20)) ?_
  refine TW.act (c' := own 3 1 vv7 n.vals.length (pre23 ++ ([(vI x.val)] ++ post24))) 4 rfl rfl (by decide) rfl (sY (sY (sY (sY (sN (sY (sY sE))))))) (fun r h => h) (fun A w M => M.storeAt (cells := [(vI x22)]) (cells' := [(vI x.val)]) (new := [(vI x.val)]) (k := 0) 5 rfl hpre26 Tryz.el3.sized rfl rfl rfl (cel_cons rfl cel_nil) (by first | omega | (simp only [List.length_set, List.length_append, List.length_cons, List.length_nil]; omega)) (Nat.le_of_ble_eq_true rfl) rfl rfl) ?_
  refine TW.done (fun w28 M => ?_)
  refine wR (wM (vP tb) (wS (Value.agg #[(vI h.at_), (vI h.turn)]) rfl (Step.loadN Tryz.ag68 rfl (M.blk 6 rfl) (Nat.le_of_ble_eq_true rfl) rfl) (wS (Value.agg #[(vB n.leaf), kv5, dv6, vv7]) rfl (Step.loadN Tryz.ag93 rfl (M.blk 0 rfl) (Nat.le_of_ble_eq_true rfl) rfl) ?_)))
  replace M := M.rechunk 4 (c' := own 3 1 vv7 (n.vals.length) ((n.vals.set (bsI n.keys x.key) x.val).flatMap intE)) rfl (by rw [← hback27]; rfl)
  replace M := M.rechunk 4 (c' := oI vv7 (n.vals.set (bsI n.keys x.key) x.val)) rfl (by show _ = own 3 1 vv7 ((n.vals.set (bsI n.keys x.key) x.val).length) ((n.vals.set (bsI n.keys x.key) x.val).flatMap intE); rw [List.length_set])
  have fq := M.frm [arenaC 107 112 S ab l] [bk b15 #[(vB n.leaf), kv5, dv6, vv7] 93, oS kv5 n.keys, oH dv6 n.kids, oI vv7 (n.vals.set (bsI n.keys x.key) x.val), bk b3 #[(vS x.key), (vI x.val)] 55, bk b1 #[(vI h.at_), (vI h.turn)] 68] [1, 0, 2, 3, 4, 5, 6] rfl
  refine WL.callX rfl (tr_put tb ab r fu ln l S h kv5 dv6 vv7 (⟨n.leaf, n.keys, n.kids, n.vals.set (bsI n.keys x.key) x.val⟩ : Nd) (by assumption) (by simp [insL] <;> omega) (by simp [insL] <;> omega) (by simp [insL] <;> omega) (M.eF fq ⟨(M.rF fq 0 rfl), ((M.cF fq 1 rfl).imp fun _ h => own_slAt h), ((M.cF fq 2 rfl).imp fun _ h => own_slAt h), ((M.cF fq 3 rfl).imp fun _ h => own_slAt h), trivial⟩)) (CallsF.func Tryz.en68 rfl) ?_
  rintro _ w30 ⟨S29, rfl, m⟩
  replace M := M.lF fq m
  clear m
  refine WL.nil (wR (wM (vI x22) (wA (vI x22) (wA (vB true) (wA vN ?_)))))
  refine WL.nil ?_
  refine W.ret ?_
  refine ⟨.inl rfl, (Value.tuple #[(vI x22), (vB true), vN]), ?_, ?_⟩
  · exact ⟨rfl, (Res.r3 (show RV _ _ _ (.tmp 6) (vI x22) from by exact rfl) (show RV _ _ _ (.tmp 7) (vB true) from by exact rfl) (show RV _ _ _ (.tmp 8) vN from by exact rfl))⟩
  have hup_ : (insF d l h x).2.2 = none := by
   rw [insF_hit hn h19]
  replace M := M.mkNone (e := 98) (o := (insF d l h x).2.2) hup_
  have e31 : (insF d l h x).1 = (rput l h (⟨n.leaf, n.keys, n.kids, n.vals.set (bsI n.keys x.key) x.val⟩ : Nd)).1 := by
   rw [insF_hit hn h19]
   try rfl
  replace M := M.rechunk 1 (c' := arenaC 107 112 S29 ab ((insF d l h x).1)) rfl (congrArg (fun z => arenaC 107 112 S29 ab z) e31.symm)
  refine ⟨vN, S29, ?_, M.close [1, 0] rfl (by decide) trivial⟩
  rw [insF_hit hn h19]
  simp [h19, hx22]
 ·
  refine wR (wP (vP b15) (wS (vB n.leaf) rfl (Step.load1 Tryz.sc4 rfl ((M.cell 0 rfl 0).trans rfl)) (wA (vB n.leaf) (WL.nil ?_))))
  refine W.cond (t := n.leaf) rfl (fun h32 => ?_) (fun h32 => ?_)
  ·
   refine W.drawn2 M [0, 1, 2, 3, 4, 7, 8, 9, 10, 11, 5, 6, 14, 12, 13] [15, 16, 17] [6, 13, 15, 17] [5, 12] _ _ (sY (sY (sN (sY (sN (sY (sY sE))))))) (fun _ h => h) Tryz.mixed (by kernel_rfl) ?_
   refine tP (Value.pointer (some ⟨b15, 1, none⟩)) rfl (fun w => sP) ?_
   refine tR kv5 rfl (fun A w M => (Step.load1 Tryz.sc23 rfl ((M.cell 1 rfl 1).trans rfl))) ?_
   refine tP (vI (↑(bsI n.keys x.key))) rfl (fun w => (Step.move rfl)) ?_
   refine tP (vP b3) rfl (fun w => sP) ?_
   refine tR (vS x.key) rfl (fun A w M => (Step.load1 Tryz.sc9 rfl ((M.cell 4 rfl 0).trans rfl))) ?_
   refine tP (Value.pointer (some ⟨b15, 3, none⟩)) rfl (fun w => sP) ?_
   refine tR vv7 rfl (fun A w M => (Step.load1 Tryz.sc91 rfl ((M.cell 1 rfl 3).trans rfl))) ?_
   refine tP (vI (↑(bsI n.keys x.key))) rfl (fun w => (Step.move rfl)) ?_
   refine tP (Value.pointer (some ⟨b3, 1, none⟩)) rfl (fun w => sP) ?_
   refine tR (vI x.val) rfl (fun A w M => (Step.load1 Tryz.sc3 rfl ((M.cell 4 rfl 1).trans rfl))) ?_
   refine TW.new (obj := .cells #[(vS x.key)] 9) (fun b => .slice (some ⟨b, 0, none⟩) 1 1) rfl (by decide) (by decide) rfl (fun w => Step.make (by kernel_rfl)) (fun b61 => ?_)
   let Q : List Chunk := [bk b15 #[(vB n.leaf), kv5, dv6, vv7] 93, arenaC 107 112 S ab l, oH dv6 n.kids, oI vv7 n.vals, bk b3 #[(vS x.key), (vI x.val)] 55, bk b1 #[(vI h.at_), (vI h.turn)] 68]
   refine TW.callX (ι := Value) (fun jx v_ => v_ = jx) (fun jx => bk b61 #[(vS x.key)] 9 :: oS jx (insL n.keys (bsI n.keys x.key) x.key) :: Q) (fun jx => [bF tb #[(vP ab), (vI r.at_), (vI r.turn), (vB fu), (vI ln)] 70]) rfl (by decide) rfl (fun jx => (sN (sN (sY (sY (sY (sN (sY (sY sE))))))))) (fun jx r h => h) (fun A w M => have fq := M.frm [oS kv5 n.keys, bk b61 #[(vS x.key)] 9] (fl A :: Q) [4, 1, 0, 2, 3, 5, 6, 7, 8] rfl; Rets.mono (ins_str kv5 n.keys (bsI n.keys x.key) b61 x.key (by omega) (by omega) (M.eF fq trivial)) (fun v_ w_ ⟨v62, e_, m⟩ => ⟨v62, e_, (M.lF fq m).sel [2, 0, 1, 3, 4, 5, 6, 7, 8] rfl (by decide), fun b hb => M.kF fq m b hb⟩)) (fun w => CallsF.func Tryz.en69 rfl) (fun v62 v hp hin => ?_)
   replace hp := hp.symm; subst hp
   obtain ⟨_, _, hin⟩ := hin
   have sl63 : IsSl v62 := SlAt.isSl (own_slAt (Mem.chunk hin 2 rfl).inv)
   have hle64 := SlAt.le' (own_slAt (Mem.chunk hin 2 rfl).inv)
   clear hin
   refine tP (Value.pointer (some ⟨b15, 1, none⟩)) rfl (fun w => sP) ?_
   refine TW.new (obj := .cells #[(vI x.val)] 3) (fun b => .slice (some ⟨b, 0, none⟩) 1 1) rfl (by decide) (by decide) rfl (fun w => Step.make (by kernel_rfl)) (fun b65 => ?_)
   let Q : List Chunk := [bk b61 #[(vS x.key)] 9, oS v62 (insL n.keys (bsI n.keys x.key) x.key), bk b15 #[(vB n.leaf), kv5, dv6, vv7] 93, arenaC 107 112 S ab l, oH dv6 n.kids, bk b3 #[(vS x.key), (vI x.val)] 55, bk b1 #[(vI h.at_), (vI h.turn)] 68]
   refine TW.callX (ι := Value) (fun jx v_ => v_ = jx) (fun jx => bk b65 #[(vI x.val)] 3 :: oI jx (insL n.vals (bsI n.keys x.key) x.val) :: Q) (fun jx => [bF tb #[(vP ab), (vI r.at_), (vI r.turn), (vB fu), (vI ln)] 70]) rfl (by decide) rfl (fun jx => (sN (sN (sN (sN (sY (sY (sY (sY (sY sE)))))))))) (fun jx r h => h) (fun A w M => have fq := M.frm [oI vv7 n.vals, bk b65 #[(vI x.val)] 3] (fl A :: Q) [7, 1, 0, 2, 3, 4, 5, 6, 8, 9] rfl; Rets.mono (ins_int vv7 n.vals (bsI n.keys x.key) b65 x.val (by omega) (by omega) (M.eF fq trivial)) (fun v_ w_ ⟨v66, e_, m⟩ => ⟨v66, e_, (M.lF fq m).sel [2, 0, 1, 3, 4, 5, 6, 7, 8, 9] rfl (by decide), fun b hb => M.kF fq m b hb⟩)) (fun w => CallsF.func Tryz.en70 rfl) (fun v66 v hp hin => ?_)
   replace hp := hp.symm; subst hp
   obtain ⟨_, _, hin⟩ := hin
   have sl67 : IsSl v66 := SlAt.isSl (own_slAt (Mem.chunk hin 2 rfl).inv)
   have hle68 := SlAt.le' (own_slAt (Mem.chunk hin 2 rfl).inv)
   clear hin
   refine TW.turn _ _ (sY (sY (sY (sY (sN (sY (sY (sY (sY sE))))))))) (fun _ h => h) ?_
   refine TW.store (v := v62) (cs := [v62]) (c' := #[(vB n.leaf), v62, dv6, vv7]) 4 rfl rfl (by decide) rfl Tryz.el23.sized rfl rfl (IsSl.list sl63) rfl (Nat.le_of_ble_eq_true rfl) (cel_cons (IsSl.cel sl63) cel_nil) rfl rfl (sY (sY (sY (sY (sN (sY (sY (sY (sY sE))))))))) (fun r h => h) ?_
   refine tP (Value.pointer (some ⟨b15, 3, none⟩)) rfl (fun w => sP) ?_
   refine TW.store (v := v66) (cs := [v66]) (c' := #[(vB n.leaf), v62, dv6, v66]) 4 rfl rfl (by decide) rfl Tryz.el91.sized rfl rfl (IsSl.list sl67) rfl (Nat.le_of_ble_eq_true rfl) (cel_cons (IsSl.cel sl67) cel_nil) rfl rfl (sY (sY (sY (sY (sN (sY (sY (sY (sY sE))))))))) (fun r h => h) ?_
   refine TW.done (fun w71 M => ?_)
   refine W.seq' ?_
   replace M := M.loseI 7
   replace M := M.loseI 2
   replace M := M.loseI 0
   refine W.region rfl (wM (vI 0) (wM (vB false) (wM (vP tb) (wS (Value.agg #[(vI h.at_), (vI h.turn)]) rfl (Step.loadN Tryz.ag68 rfl (M.blk 5 rfl) (Nat.le_of_ble_eq_true rfl) rfl) (wS (Value.agg #[(vB n.leaf), v62, dv6, v66]) rfl (Step.loadN Tryz.ag93 rfl (M.blk 2 rfl) (Nat.le_of_ble_eq_true rfl) rfl) ?_)))))
   have fq := M.frm [arenaC 107 112 S ab l] [oI v66 (insL n.vals (bsI n.keys x.key) x.val), oS v62 (insL n.keys (bsI n.keys x.key) x.key), bk b15 #[(vB n.leaf), v62, dv6, v66] 93, oH dv6 n.kids, bk b1 #[(vI h.at_), (vI h.turn)] 68] [3, 0, 1, 2, 4, 5] rfl
   refine WL.callX rfl (tr_settle tb ab r fu ln l S h v62 dv6 v66 (⟨n.leaf, insL n.keys (bsI n.keys x.key) x.key, n.kids, insL n.vals (bsI n.keys x.key) x.val⟩ : Nd) (by assumption) (by first | assumption | omega | (simp only [List.length_nil, List.length_cons, List.length_take, List.length_drop, List.length_append, List.length_set, insL]; omega)) (by first | assumption | (intro h_; simp only [List.length_nil, List.length_cons, List.length_take, List.length_drop, List.length_append, List.length_set, insL]; omega) | (intro h_; simp_all; done)) (by simp [insL] <;> omega) (by simp [insL] <;> omega) (by simp [insL] <;> omega) (M.eF fq ⟨(M.rF fq 0 rfl), ((M.cF fq 1 rfl).imp fun _ h => own_slAt h), ((M.cF fq 3 rfl).imp fun _ h => own_slAt h), ((M.cF fq 0 rfl).imp fun _ h => own_slAt h), trivial⟩)) (CallsF.func Tryz.en72 rfl) ?_
   rintro u72 w74 ⟨_, S73, rfl, m⟩
   replace M := M.lF fq m
   clear m
   refine wA (vI 0) (wA (vB false) (wA u72 (WL.nil ?_)))
   refine W.ret ?_
   refine ⟨.inl rfl, (Value.tuple #[(vI 0), (vB false), u72]), ?_, ?_⟩
   · exact ⟨rfl, (Res.r3 (show RV _ _ _ (.tmp 6) (vI 0) from by exact rfl) (show RV _ _ _ (.tmp 7) (vB false) from by exact rfl) (show RV _ _ _ (.tmp 8) u72 from by exact rfl))⟩
   have e75 : (insF d l h x).1 = (settleF l h (⟨n.leaf, insL n.keys (bsI n.keys x.key) x.key, n.kids, insL n.vals (bsI n.keys x.key) x.val⟩ : Nd)).1 := by
    rw [insF_leaf hn h19 h32]
    try rfl
   replace M := M.rechunk 0 (c' := arenaC 107 112 S73 ab ((insF d l h x).1)) rfl (congrArg (fun z => arenaC 107 112 S73 ab z) e75.symm)
   have e76 : (insF d l h x).2.2 = (settleF l h (⟨n.leaf, insL n.keys (bsI n.keys x.key) x.key, n.kids, insL n.vals (bsI n.keys x.key) x.val⟩ : Nd)).2 := by
    rw [insF_leaf hn h19 h32]
    try rfl
   replace M := M.rechunk 1 (c' := upC 98 u72 ((insF d l h x).2.2)) rfl (congrArg (fun z => upC 98 u72 z) e76.symm)
   refine ⟨u72, S73, ?_, M.close [0, 1] rfl (by decide) trivial⟩
   rw [insF_leaf hn h19 h32]
   try rfl
  ·
   obtain ⟨e, rfl, hkl_, hO2, hS2⟩ := insOk_kid hO hn h19 h32
   refine W.seq' ?_
   obtain ⟨cap78, hb77⟩ := SlAt.base (own_slAt (M.chunk 3 rfl).inv) (by omega)
   obtain ⟨x79, hx79⟩ := elem_of_lt (xs := n.kids) (i := bsI n.keys x.key) (by omega)
   have hgd_ : n.kids.getD (bsI n.keys x.key) hdZero = x79 := by rw [List.getD_eq_getElem?_getD, hx79]; rfl
   rw [hgd_] at hO2 hS2
   refine W.drawn M [0, 1, 2, 3, 4, 5, 6, 7, 8, 9, 10, 11, 12, 13, 14] [7] [] _ _ (sY (sN (sY (sY (sY (sY (sY sE))))))) (fun _ h => h) Tryz.mixed (by kernel_rfl) ?_
   refine tP (vP tb) rfl (fun w => (Step.move rfl)) ?_
   refine tP (Value.pointer (some ⟨b15, 2, none⟩)) rfl (fun w => sP) ?_
   refine tR dv6 rfl (fun A w M => (Step.load1 Tryz.sc90 rfl ((M.cell 1 rfl 2).trans rfl))) ?_
   refine tP (vI (↑(bsI n.keys x.key))) rfl (fun w => (Step.move rfl)) ?_
   refine tP (vQ dv6 (bsI n.keys x.key) 2) rfl (fun w => (sX (bsI n.keys x.key) Tryz.un90 Tryz.el68 rfl rfl hb77)) ?_
   refine tR (Value.agg #[(vI x79.at_), (vI x79.turn)]) rfl (fun A w M => (Step.loadEN (k := 0) (cs' := [(vI x79.at_), (vI x79.turn)]) Tryz.ag68 (flat_ec (own_slAt (M.chunk 3 rfl).inv) hx79 handleE_len) (by decide) rfl rfl rfl)) ?_
   refine tR (Value.agg #[(vS x.key), (vI x.val)]) rfl (fun A w M => (Step.loadN Tryz.ag55 rfl (M.blk 5 rfl) (Nat.le_of_ble_eq_true rfl) rfl)) ?_
   let Q : List Chunk := [bk b15 #[(vB n.leaf), kv5, dv6, vv7] 93, oS kv5 n.keys, oH dv6 n.kids, oI vv7 n.vals, bk b3 #[(vS x.key), (vI x.val)] 55, bk b1 #[(vI h.at_), (vI h.turn)] 68]
   refine TW.callX (ι := Value × (Nat → Prop)) (fun jx v_ => v_ = (Value.tuple #[(vI ((insF e l x79 x).2.1.1)), (vB ((insF e l x79 x).2.1.2)), jx.1])) (fun jx => arenaC 107 112 jx.2 ab ((insF e l x79 x).1) :: upC 98 jx.1 ((insF e l x79 x).2.2) :: Q) (fun jx => [bF tb #[(vP ab), (vI r.at_), (vI r.turn), (vB fu), (vI ln)] 70]) rfl (by decide) rfl (fun jx => (sN (sN (sY (sY (sY (sY (sY (sY sE))))))))) (fun jx r h => h) (fun A w M => have fq := M.frm [arenaC 107 112 S ab l] (fl A :: Q) [2, 0, 1, 3, 4, 5, 6, 7] rfl; Rets.mono (ih e (by omega) tb ab r fu ln l S x79 x (by assumption) (M.eF fq ⟨(M.rF fq 0 rfl), trivial⟩)) (fun v_ w_ ⟨u84, S85, e_, m⟩ => ⟨(u84, S85), e_, (M.lF fq m).sel [2, 0, 1, 3, 4, 5, 6, 7, 8] rfl (by decide), fun b hb => M.kF fq m b hb⟩)) (fun w => CallsF.func Tryz.en50 rfl) (fun jx v hp hin => ?_)
   obtain ⟨u84, S85⟩ := jx
   replace hp := hp.symm; subst hp
   obtain ⟨_, _, hin⟩ := hin
   clear hin
   refine tP (Value.tuple #[(vI ((insF e l x79 x).2.1.1)), (vB ((insF e l x79 x).2.1.2)), u84]) rfl (fun w => (Step.move rfl)) ?_
   refine tP (vI ((insF e l x79 x).2.1.1)) rfl (fun w => sP) ?_
   refine tP (vB ((insF e l x79 x).2.1.2)) rfl (fun w => sP) ?_
   refine tP u84 rfl (fun w => sP) ?_
   refine tP (vI ((insF e l x79 x).2.1.1)) rfl (fun w => (Step.assign rfl)) ?_
   refine tP (vB ((insF e l x79 x).2.1.2)) rfl (fun w => (Step.assign rfl)) ?_
   refine tP u84 rfl (fun w => (Step.assign rfl)) ?_
   refine TW.done (fun w86 M => ?_)
   refine W.seq' (W.seq' ?_)
   rcases ho_ : (insF e l x79 x).2.2 with _ | u_
   ·
    rw [ho_] at M
    obtain rfl := M.upNone 1 rfl
    replace M := M.sel (L' := [arenaC 107 112 S85 ab ((insF e l x79 x).1), bk b15 #[(vB n.leaf), kv5, dv6, vv7] 93, oS kv5 n.keys, oH dv6 n.kids, oI vv7 n.vals, bk b3 #[(vS x.key), (vI x.val)] 55, bk b1 #[(vI h.at_), (vI h.turn)] 68]) [0, 2, 3, 4, 5, 6, 7] rfl (by decide)
    refine W.region rfl (wM vN (wP (vB true) (WL.nil ?_)))
    refine W.cond (t := true) rfl (fun _ => ?_) (fun h => by cases h)
    refine wR (wM (vI ((insF e l x79 x).2.1.1)) (wM (vB ((insF e l x79 x).2.1.2)) (wA (vI ((insF e l x79 x).2.1.1)) (wA (vB ((insF e l x79 x).2.1.2)) (wA vN ?_)))))
    refine WL.nil ?_
    refine W.ret ?_
    refine ⟨.inl rfl, (Value.tuple #[(vI ((insF e l x79 x).2.1.1)), (vB ((insF e l x79 x).2.1.2)), vN]), ?_, ?_⟩
    · exact ⟨rfl, (Res.r3 (show RV _ _ _ (.tmp 6) (vI ((insF e l x79 x).2.1.1)) from by exact rfl) (show RV _ _ _ (.tmp 7) (vB ((insF e l x79 x).2.1.2)) from by exact rfl) (show RV _ _ _ (.tmp 8) vN from by exact rfl))⟩
    have hup_ : (insF (e + 1) l h x).2.2 = none := by
     rw [insF_none hn h19 h32 (by rw [hgd_]; exact ho_)]
     try rw [hgd_]
    replace M := M.mkNone (e := 98) (o := (insF (e + 1) l h x).2.2) hup_
    have e88 : (insF (e + 1) l h x).1 = (insF e l x79 x).1 := by
     rw [insF_none hn h19 h32 (by rw [hgd_]; exact ho_)]
     try rw [hgd_]
     try rfl
    replace M := M.rechunk 1 (c' := arenaC 107 112 S85 ab ((insF (e + 1) l h x).1)) rfl (congrArg (fun z => arenaC 107 112 S85 ab z) e88.symm)
    refine ⟨vN, S85, ?_, M.close [1, 0] rfl (by decide) trivial⟩
    rw [insF_none hn h19 h32 (by rw [hgd_]; exact ho_)]
    try rw [hgd_]
    try rfl
   ·
    rw [ho_] at M
    obtain ⟨b87, rfl, M⟩ := M.upSome 1 rfl
    refine W.region rfl (wM (vP b87) (wP (vB false) (WL.nil ?_)))
    refine W.cond (t := false) rfl (fun h => by cases h) (fun _ => ?_)
    refine W.skip (W.seq' ?_)
    replace M := M.loseI 6
    refine W.drawn2 M [0, 1, 2, 3, 4, 5, 6, 7, 10, 11, 12, 13, 14, 15, 16, 17, 8, 9, 20, 18, 19] [21, 22, 23] [9, 19, 21, 23] [8, 18] _ _ (sY (sY (sY (sN (sY (sN (sY sE))))))) (fun _ h => h) Tryz.mixed (by kernel_rfl) ?_
    refine tP (Value.pointer (some ⟨b15, 1, none⟩)) rfl (fun w => sP) ?_
    refine tR kv5 rfl (fun A w M => (Step.load1 Tryz.sc23 rfl ((M.cell 3 rfl 1).trans rfl))) ?_
    refine tP (vI (↑(bsI n.keys x.key))) rfl (fun w => (Step.move rfl)) ?_
    refine tP (vP b87) rfl (fun w => (Step.move rfl)) ?_
    refine tP (vP b87) rfl (fun w => sP) ?_
    refine tP (vP b87) rfl (fun w => sP) ?_
    refine tP (vP b87) rfl (fun w => sP) ?_
    refine tR (vS u_.1.key) rfl (fun A w M => (Step.load1 Tryz.sc9 rfl ((M.cell 2 rfl 0).trans rfl))) ?_
    refine tP (Value.pointer (some ⟨b15, 3, none⟩)) rfl (fun w => sP) ?_
    refine tR vv7 rfl (fun A w M => (Step.load1 Tryz.sc91 rfl ((M.cell 3 rfl 3).trans rfl))) ?_
    refine tP (vI (↑(bsI n.keys x.key))) rfl (fun w => (Step.move rfl)) ?_
    refine tP (vP b87) rfl (fun w => (Step.move rfl)) ?_
    refine tP (vP b87) rfl (fun w => sP) ?_
    refine tP (vP b87) rfl (fun w => sP) ?_
    refine tP (Value.pointer (some ⟨b87, 1, none⟩)) rfl (fun w => sP) ?_
    refine tR (vI u_.1.val) rfl (fun A w M => (Step.load1 Tryz.sc3 rfl ((M.cell 2 rfl 1).trans rfl))) ?_
    refine TW.new (obj := .cells #[(vS u_.1.key)] 9) (fun b => .slice (some ⟨b, 0, none⟩) 1 1) rfl (by decide) (by decide) rfl (fun w => Step.make (by kernel_rfl)) (fun b117 => ?_)
    let Q : List Chunk := [arenaC 107 112 S85 ab ((insF e l x79 x).1), bk b87 #[(vS u_.1.key), (vI u_.1.val), (vI u_.2.at_), (vI u_.2.turn)] 98, bk b15 #[(vB n.leaf), kv5, dv6, vv7] 93, oH dv6 n.kids, oI vv7 n.vals, bk b1 #[(vI h.at_), (vI h.turn)] 68]
    refine TW.callX (ι := Value) (fun jx v_ => v_ = jx) (fun jx => bk b117 #[(vS u_.1.key)] 9 :: oS jx (insL n.keys (bsI n.keys x.key) u_.1.key) :: Q) (fun jx => [bF tb #[(vP ab), (vI r.at_), (vI r.turn), (vB fu), (vI ln)] 70]) rfl (by decide) rfl (fun jx => (sN (sN (sY (sY (sY (sY (sN (sY sE))))))))) (fun jx r h => h) (fun A w M => have fq := M.frm [oS kv5 n.keys, bk b117 #[(vS u_.1.key)] 9] (fl A :: Q) [5, 1, 0, 2, 3, 4, 6, 7, 8] rfl; Rets.mono (ins_str kv5 n.keys (bsI n.keys x.key) b117 u_.1.key (by omega) (by omega) (M.eF fq trivial)) (fun v_ w_ ⟨v118, e_, m⟩ => ⟨v118, e_, (M.lF fq m).sel [2, 0, 1, 3, 4, 5, 6, 7, 8] rfl (by decide), fun b hb => M.kF fq m b hb⟩)) (fun w => CallsF.func Tryz.en69 rfl) (fun v118 v hp hin => ?_)
    replace hp := hp.symm; subst hp
    obtain ⟨_, _, hin⟩ := hin
    have sl119 : IsSl v118 := SlAt.isSl (own_slAt (Mem.chunk hin 2 rfl).inv)
    have hle120 := SlAt.le' (own_slAt (Mem.chunk hin 2 rfl).inv)
    clear hin
    refine tP (Value.pointer (some ⟨b15, 1, none⟩)) rfl (fun w => sP) ?_
    refine TW.new (obj := .cells #[(vI u_.1.val)] 3) (fun b => .slice (some ⟨b, 0, none⟩) 1 1) rfl (by decide) (by decide) rfl (fun w => Step.make (by kernel_rfl)) (fun b121 => ?_)
    let Q : List Chunk := [bk b117 #[(vS u_.1.key)] 9, oS v118 (insL n.keys (bsI n.keys x.key) u_.1.key), arenaC 107 112 S85 ab ((insF e l x79 x).1), bk b87 #[(vS u_.1.key), (vI u_.1.val), (vI u_.2.at_), (vI u_.2.turn)] 98, bk b15 #[(vB n.leaf), kv5, dv6, vv7] 93, oH dv6 n.kids, bk b1 #[(vI h.at_), (vI h.turn)] 68]
    refine TW.callX (ι := Value) (fun jx v_ => v_ = jx) (fun jx => bk b121 #[(vI u_.1.val)] 3 :: oI jx (insL n.vals (bsI n.keys x.key) u_.1.val) :: Q) (fun jx => [bF tb #[(vP ab), (vI r.at_), (vI r.turn), (vB fu), (vI ln)] 70]) rfl (by decide) rfl (fun jx => (sN (sN (sN (sN (sY (sY (sY (sY (sY sE)))))))))) (fun jx r h => h) (fun A w M => have fq := M.frm [oI vv7 n.vals, bk b121 #[(vI u_.1.val)] 3] (fl A :: Q) [8, 1, 0, 2, 3, 4, 5, 6, 7, 9] rfl; Rets.mono (ins_int vv7 n.vals (bsI n.keys x.key) b121 u_.1.val (by omega) (by omega) (M.eF fq trivial)) (fun v_ w_ ⟨v122, e_, m⟩ => ⟨v122, e_, (M.lF fq m).sel [2, 0, 1, 3, 4, 5, 6, 7, 8, 9] rfl (by decide), fun b hb => M.kF fq m b hb⟩)) (fun w => CallsF.func Tryz.en70 rfl) (fun v122 v hp hin => ?_)
    replace hp := hp.symm; subst hp
    obtain ⟨_, _, hin⟩ := hin
    have sl123 : IsSl v122 := SlAt.isSl (own_slAt (Mem.chunk hin 2 rfl).inv)
    have hle124 := SlAt.le' (own_slAt (Mem.chunk hin 2 rfl).inv)
    clear hin
    refine TW.turn _ _ (sY (sY (sY (sY (sY (sY (sN (sY (sY sE))))))))) (fun _ h => h) ?_
    refine TW.store (v := v118) (cs := [v118]) (c' := #[(vB n.leaf), v118, dv6, vv7]) 6 rfl rfl (by decide) rfl Tryz.el23.sized rfl rfl (IsSl.list sl119) rfl (Nat.le_of_ble_eq_true rfl) (cel_cons (IsSl.cel sl119) cel_nil) rfl rfl (sY (sY (sY (sY (sY (sY (sN (sY (sY sE))))))))) (fun r h => h) ?_
    refine tP (Value.pointer (some ⟨b15, 3, none⟩)) rfl (fun w => sP) ?_
    refine TW.store (v := v122) (cs := [v122]) (c' := #[(vB n.leaf), v118, dv6, v122]) 6 rfl rfl (by decide) rfl Tryz.el91.sized rfl rfl (IsSl.list sl123) rfl (Nat.le_of_ble_eq_true rfl) (cel_cons (IsSl.cel sl123) cel_nil) rfl rfl (sY (sY (sY (sY (sY (sY (sN (sY (sY sE))))))))) (fun r h => h) ?_
    refine TW.done (fun w127 M => ?_)
    replace M := M.loseI 2
    replace M := M.loseI 0
    refine W.drawn2 M [0, 1, 2, 3, 4, 5, 6, 7, 8] [9, 10, 11] [9, 11] [8] _ _ (sY (sY (sY (sY (sY (sY (sY sE))))))) (fun _ h => h) Tryz.mixed (by kernel_rfl) ?_
    refine tP (Value.pointer (some ⟨b15, 2, none⟩)) rfl (fun w => sP) ?_
    refine tR dv6 rfl (fun A w M => (Step.load1 Tryz.sc90 rfl ((M.cell 5 rfl 2).trans rfl))) ?_
    refine tP (vI (↑(bsI n.keys x.key))) rfl (fun w => (Step.move rfl)) ?_
    refine tP (vI (↑((bsI n.keys x.key) + 1))) rfl (fun w => (Step.cast (congrArg (Value.int .i64) (show (↑(bsI n.keys x.key) + 1 : Int) = ↑((bsI n.keys x.key) + 1) by omega)) (Step.add rfl rfl (wrap_i64 (by omega))))) ?_
    refine tP (vP b87) rfl (fun w => (Step.move rfl)) ?_
    refine tP (vP b87) rfl (fun w => sP) ?_
    refine tP (Value.pointer (some ⟨b87, 2, none⟩)) rfl (fun w => sP) ?_
    refine tR (Value.agg #[(vI u_.2.at_), (vI u_.2.turn)]) rfl (fun A w M => (Step.loadN Tryz.ag68 rfl (M.blk 4 rfl) (Nat.le_of_ble_eq_true rfl) rfl)) ?_
    refine TW.new (obj := .cells #[(vI u_.2.at_), (vI u_.2.turn)] 68) (fun b => .slice (some ⟨b, 0, none⟩) 1 1) rfl (by decide) (by decide) rfl (fun w => Step.make (by kernel_rfl)) (fun b140 => ?_)
    refine TW.turn _ _ (sN (sY (sY (sY (sY (sN (sN (sY sE)))))))) (fun _ h => h) ?_
    let Q : List Chunk := [oI v122 (insL n.vals (bsI n.keys x.key) u_.1.val), oS v118 (insL n.keys (bsI n.keys x.key) u_.1.key), arenaC 107 112 S85 ab ((insF e l x79 x).1), bk b87 #[(vS u_.1.key), (vI u_.1.val), (vI u_.2.at_), (vI u_.2.turn)] 98, bk b15 #[(vB n.leaf), v118, dv6, v122] 93, bk b1 #[(vI h.at_), (vI h.turn)] 68]
    refine TW.callX (ι := Value) (fun jx v_ => v_ = jx) (fun jx => bk b140 #[(vI u_.2.at_), (vI u_.2.turn)] 68 :: oH jx (insL n.kids ((bsI n.keys x.key) + 1) u_.2) :: Q) (fun jx => [bF tb #[(vP ab), (vI r.at_), (vI r.turn), (vB fu), (vI ln)] 70]) rfl (by decide) rfl (fun jx => (sN (sN (sY (sY (sY (sY (sN (sY sE))))))))) (fun jx r h => h) (fun A w M => have fq := M.frm [oH dv6 n.kids, bk b140 #[(vI u_.2.at_), (vI u_.2.turn)] 68] (fl A :: Q) [7, 1, 0, 2, 3, 4, 5, 6, 8] rfl; Rets.mono (ins_hdl dv6 n.kids ((bsI n.keys x.key) + 1) b140 u_.2 (by omega) (by omega) (M.eF fq trivial)) (fun v_ w_ ⟨v143, e_, m⟩ => ⟨v143, e_, (M.lF fq m).sel [2, 0, 1, 3, 4, 5, 6, 7, 8] rfl (by decide), fun b hb => M.kF fq m b hb⟩)) (fun w => CallsF.func Tryz.en71 rfl) (fun v143 v hp hin => ?_)
    replace hp := hp.symm; subst hp
    obtain ⟨_, _, hin⟩ := hin
    have sl144 : IsSl v143 := SlAt.isSl (own_slAt (Mem.chunk hin 2 rfl).inv)
    have hle145 := SlAt.le' (own_slAt (Mem.chunk hin 2 rfl).inv)
    clear hin
    refine tP (Value.pointer (some ⟨b15, 2, none⟩)) rfl (fun w => sP) ?_
    refine TW.store (v := v143) (cs := [v143]) (c' := #[(vB n.leaf), v118, v143, v122]) 6 rfl rfl (by decide) rfl Tryz.el90.sized rfl rfl (IsSl.list sl144) rfl (Nat.le_of_ble_eq_true rfl) (cel_cons (IsSl.cel sl144) cel_nil) rfl rfl (sN (sN (sY (sY (sY (sY (sN (sY sE)))))))) (fun r h => h) ?_
    refine TW.done (fun w146 M => ?_)
    refine W.seq' ?_
    replace M := M.loseI 0
    refine W.region rfl (wM (vI ((insF e l x79 x).2.1.1)) (wM (vB ((insF e l x79 x).2.1.2)) (wM (vP tb) (wS (Value.agg #[(vI h.at_), (vI h.turn)]) rfl (Step.loadN Tryz.ag68 rfl (M.blk 6 rfl) (Nat.le_of_ble_eq_true rfl) rfl) (wS (Value.agg #[(vB n.leaf), v118, v143, v122]) rfl (Step.loadN Tryz.ag93 rfl (M.blk 5 rfl) (Nat.le_of_ble_eq_true rfl) rfl) ?_)))))
    have fq := M.frm [arenaC 107 112 S85 ab ((insF e l x79 x).1)] [oH v143 (insL n.kids ((bsI n.keys x.key) + 1) u_.2), oI v122 (insL n.vals (bsI n.keys x.key) u_.1.val), oS v118 (insL n.keys (bsI n.keys x.key) u_.1.key), bk b87 #[(vS u_.1.key), (vI u_.1.val), (vI u_.2.at_), (vI u_.2.turn)] 98, bk b15 #[(vB n.leaf), v118, v143, v122] 93, bk b1 #[(vI h.at_), (vI h.turn)] 68] [3, 0, 1, 2, 4, 5, 6] rfl
    refine WL.callX rfl (tr_settle tb ab r fu ln ((insF e l x79 x).1) S85 h v118 v143 v122 (⟨n.leaf, insL n.keys (bsI n.keys x.key) u_.1.key, insL n.kids ((bsI n.keys x.key) + 1) u_.2, insL n.vals (bsI n.keys x.key) u_.1.val⟩ : Nd) (by first | assumption | exact smallA_of rfl) (by first | assumption | omega | (simp only [List.length_nil, List.length_cons, List.length_take, List.length_drop, List.length_append, List.length_set, insL]; omega)) (by first | assumption | (intro h_; simp only [List.length_nil, List.length_cons, List.length_take, List.length_drop, List.length_append, List.length_set, insL]; omega) | (intro h_; simp_all; done)) (by simp [insL] <;> omega) (by simp [insL] <;> omega) (by simp [insL] <;> omega) (M.eF fq ⟨(M.rF fq 0 rfl), ((M.cF fq 2 rfl).imp fun _ h => own_slAt h), ((M.cF fq 0 rfl).imp fun _ h => own_slAt h), ((M.cF fq 1 rfl).imp fun _ h => own_slAt h), trivial⟩)) (CallsF.func Tryz.en72 rfl) ?_
    rintro u147 w149 ⟨_, S148, rfl, m⟩
    replace M := M.lF fq m
    clear m
    refine wA (vI ((insF e l x79 x).2.1.1)) (wA (vB ((insF e l x79 x).2.1.2)) (wA u147 (WL.nil ?_)))
    refine W.ret ?_
    refine ⟨.inl rfl, (Value.tuple #[(vI ((insF e l x79 x).2.1.1)), (vB ((insF e l x79 x).2.1.2)), u147]), ?_, ?_⟩
    · exact ⟨rfl, (Res.r3 (show RV _ _ _ (.tmp 6) (vI ((insF e l x79 x).2.1.1)) from by exact rfl) (show RV _ _ _ (.tmp 7) (vB ((insF e l x79 x).2.1.2)) from by exact rfl) (show RV _ _ _ (.tmp 8) u147 from by exact rfl))⟩
    have e150 : (insF (e + 1) l h x).1 = (settleF ((insF e l x79 x).1) h (⟨n.leaf, insL n.keys (bsI n.keys x.key) u_.1.key, insL n.kids ((bsI n.keys x.key) + 1) u_.2, insL n.vals (bsI n.keys x.key) u_.1.val⟩ : Nd)).1 := by
     rw [insF_some hn h19 h32 (by rw [hgd_]; exact ho_)]
     try rw [hgd_]
     try rfl
    replace M := M.rechunk 0 (c' := arenaC 107 112 S148 ab ((insF (e + 1) l h x).1)) rfl (congrArg (fun z => arenaC 107 112 S148 ab z) e150.symm)
    have e151 : (insF (e + 1) l h x).2.2 = (settleF ((insF e l x79 x).1) h (⟨n.leaf, insL n.keys (bsI n.keys x.key) u_.1.key, insL n.kids ((bsI n.keys x.key) + 1) u_.2, insL n.vals (bsI n.keys x.key) u_.1.val⟩ : Nd)).2 := by
     rw [insF_some hn h19 h32 (by rw [hgd_]; exact ho_)]
     try rw [hgd_]
     try rfl
    replace M := M.rechunk 1 (c' := upC 98 u147 ((insF (e + 1) l h x).2.2)) rfl (congrArg (fun z => upC 98 u147 z) e151.symm)
    refine ⟨u147, S148, ?_, M.close [0, 1] rfl (by decide) trivial⟩
    rw [insF_some hn h19 h32 (by rw [hgd_]; exact ho_)]
    try rw [hgd_]
    try rfl
end Go.Proofs
namespace Tp
open Go
structure NodeMay (l : List RPlace) (n : Nd) : Prop where
  tiny : tinyN n
  lens : n.vals.length = n.keys.length
def lastOk : Nat → List RPlace → Handle → Prop
  | 0, l, h => NodeMay l (rget l h).1 ∧ 1 ≤ (rget l h).1.keys.length ∧ (rget l h).1.leaf = true
  | d + 1, l, h => NodeMay l (rget l h).1 ∧ 1 ≤ (rget l h).1.keys.length ∧ ((rget l h).1.leaf = false → 1 ≤ (rget l h).1.kids.length ∧ lastOk d l ((rget l h).1.kids.getD ((rget l h).1.kids.length - 1) hdZero))
section
variable {l : List RPlace} {h c1 c2 : Handle} {n a b : Nd} {x : THit} {k : ByteArray} {d i : Nat} {lw : Bool}
theorem lastOk_node (hO : lastOk d l h) (hn : (rget l h).1 = n) : tinyN n ∧ n.vals.length = n.keys.length ∧ 1 ≤ n.keys.length := by
  subst hn
  cases d with
  | zero => exact ⟨hO.1.1, hO.1.2, hO.2.1⟩
  | succ d => exact ⟨hO.1.1, hO.1.2, hO.2.1⟩
theorem lastOk_kid (hO : lastOk d l h) (hn : (rget l h).1 = n) (hl : n.leaf = false) : ∃ e, d = e + 1 ∧ 1 ≤ n.kids.length ∧ lastOk e l (n.kids.getD (n.kids.length - 1) hdZero) := by
  subst hn
  cases d with
  | zero => rw [hO.2.2] at hl; cases hl
  | succ d => exact ⟨d, rfl, hO.2.2 hl⟩
theorem lastF_leaf (hn : (rget l h).1 = n) (hl : n.leaf = true) : lastF d l h = ⟨n.keys.getD (n.keys.length - 1) default, n.vals.getD (n.vals.length - 1) 0⟩ := by
  subst hn; cases d <;> (unfold lastF; simp [hl])
theorem lastF_kid (hn : (rget l h).1 = n) (hl : n.leaf = false) : lastF (d + 1) l h = lastF d l (n.kids.getD (n.kids.length - 1) hdZero) := by
  subst hn
  conv => lhs; unfold lastF
  simp only [hl, Bool.false_eq_true, if_false]
structure PairOk (l : List RPlace) (h : Handle) (i : Nat) (n a b : Nd) : Prop where
  small : SmallA l
  n_ : tinyN n
  a_ : tinyN a
  b_ : tinyN b
  nl : n.vals.length = n.keys.length
  al : a.vals.length = a.keys.length
  bl : b.vals.length = b.keys.length
  ik : i < n.keys.length
  kk : n.kids.length = n.keys.length + 1
  a1 : 1 ≤ a.keys.length
  b1 : 1 ≤ b.keys.length
  lf : b.leaf = a.leaf
  ak : a.leaf = false → a.kids.length = a.keys.length + 1
  bk : a.leaf = false → b.kids.length = b.keys.length + 1
def pairOk (l : List RPlace) (h : Handle) (i : Nat) : Prop := PairOk l h i (rget l h).1 (rget l ((rget l h).1.kids.getD i hdZero)).1 (rget l ((rget l h).1.kids.getD (i + 1) hdZero)).1
theorem pairOk_at (hO : pairOk l h i) (hn : (rget l h).1 = n) (h1 : n.kids.getD i hdZero = c1) (h2 : n.kids.getD (i + 1) hdZero = c2) (ha : (rget l c1).1 = a) (hb : (rget l c2).1 = b) : PairOk l h i n a b := by
  subst hn; subst h1; subst h2; subst ha; subst hb; exact hO
theorem pairOk_n (hO : pairOk l h i) (hn : (rget l h).1 = n) : SmallA l ∧ tinyN n ∧ n.vals.length = n.keys.length ∧ i < n.keys.length ∧ n.kids.length = n.keys.length + 1 := by
  subst hn; exact ⟨hO.small, hO.n_, hO.nl, hO.ik, hO.kk⟩
theorem turnF_eq {at_ : Nat} (hn : (rget l h).1 = n) (h1 : n.kids.getD i hdZero = c1) (h2 : n.kids.getD (i + 1) hdZero = c2) (ha : (rget l c1).1 = a) (hb : (rget l c2).1 = b) (hat : (if lw then a.keys.length + 1 else a.keys.length - 1) = at_) :
    turnF l h i lw = (rput (rput (rput l c1 ⟨a.leaf, (a.keys ++ ((n.keys.drop i).take 1 ++ b.keys)).take at_, if a.leaf then a.kids else (a.kids ++ b.kids).take (at_ + 1), (a.vals ++ ((n.vals.drop i).take 1 ++ b.vals)).take at_⟩).1 c2
      ⟨b.leaf, (a.keys ++ ((n.keys.drop i).take 1 ++ b.keys)).drop (at_ + 1), if a.leaf then b.kids else (a.kids ++ b.kids).drop (at_ + 1), (a.vals ++ ((n.vals.drop i).take 1 ++ b.vals)).drop (at_ + 1)⟩).1 h
      ⟨n.leaf, n.keys.set i ((a.keys ++ ((n.keys.drop i).take 1 ++ b.keys)).getD at_ default), n.kids, n.vals.set i ((a.vals ++ ((n.vals.drop i).take 1 ++ b.vals)).getD at_ 0)⟩).1 := by
  subst hn; subst h1; subst h2; subst ha; subst hb; subst hat; rfl
theorem joinF_eq (hn : (rget l h).1 = n) (h1 : n.kids.getD i hdZero = c1) (h2 : n.kids.getD (i + 1) hdZero = c2) (ha : (rget l c1).1 = a) (hb : (rget l c2).1 = b) :
    joinF l h i = (rput (rfree (rput l c1 ⟨a.leaf, a.keys ++ ((n.keys.drop i).take 1 ++ b.keys), a.kids ++ b.kids, a.vals ++ ((n.vals.drop i).take 1 ++ b.vals)⟩).1 [c2]).1 h ⟨n.leaf, n.keys.eraseIdx i, n.kids.eraseIdx (i + 1), n.vals.eraseIdx i⟩).1 := by
  subst hn; subst h1; subst h2; subst ha; subst hb; rfl
theorem SmallA.free (hA : SmallA l) : SmallA (rfree l [h]).1 := by
  cases hh : rhas l h with
  | false => rw [rfree_miss (by simp [freeable, hh])]; exact hA
  | true =>
    obtain ⟨p, hp, hu, ht, h0, hlt⟩ := rhas_place hh
    obtain ⟨g1, g2, g3⟩ := hA.2 _ _ hp
    rw [free_is hh]
    exact hA.setp (by simp only; omega) (by simp only; omega) ⟨by simp [ndZero], by simp [ndZero], by simp [ndZero]⟩
def mendOk (l : List RPlace) (h : Handle) (i : Nat) : Prop := SmallA l ∧ tinyN (rget l h).1 ∧ i < (rget l h).1.kids.length ∧ 2 ≤ (rget l h).1.kids.length ∧
  (¬ 2 ≤ (rget l ((rget l h).1.kids.getD i hdZero)).1.keys.length → (0 < i → pairOk l h (i - 1)) ∧ (i + 1 < (rget l h).1.kids.length → pairOk l h i))
theorem mendOk_n (hO : mendOk l h i) (hn : (rget l h).1 = n) : SmallA l ∧ tinyN n ∧ i < n.kids.length ∧ 2 ≤ n.kids.length := by
  subst hn; exact ⟨hO.1, hO.2.1, hO.2.2.1, hO.2.2.2.1⟩
theorem mendOk_pair (hO : mendOk l h i) (hn : (rget l h).1 = n) (h1 : n.kids.getD i hdZero = c1) (ha : (rget l c1).1 = a) (h2 : ¬ 2 ≤ a.keys.length) : (0 < i → pairOk l h (i - 1)) ∧ (i + 1 < n.kids.length → pairOk l h i) := by
  subst hn; subst h1; subst ha; exact hO.2.2.2.2 h2
theorem mend_keep (hn : (rget l h).1 = n) (h1 : n.kids.getD i hdZero = c1) (ha : (rget l c1).1 = a) (h2 : 2 ≤ a.keys.length) : mendF l h i = l := by
  subst hn; subst h1; subst ha; unfold mendF; simp only; rw [if_pos h2]
theorem mend_go (hn : (rget l h).1 = n) (h1 : n.kids.getD i hdZero = c1) (ha : (rget l c1).1 = a) (h2 : ¬ 2 ≤ a.keys.length) :
    mendF l h i = if richF l n ((i : Int) - 1) then turnF l h (i - 1) false else if richF l n ((i : Int) + 1) then turnF l h i true else if 0 < i then joinF l h (i - 1) else joinF l h i := by
  subst hn; subst h1; subst ha; unfold mendF; simp only; rw [if_neg h2]
theorem rich_low {j : Int} (h : richF l n j = true) : 0 ≤ j ∧ j < n.kids.length := by
  unfold richF at h
  simp only [Bool.and_eq_true, decide_eq_true_eq] at h
  exact h.1
def remOk : Nat → List RPlace → Handle → ByteArray → Prop
  | 0, l, h, k => NodeOk l (rget l h).1 ∧ bsF (rget l h).1.keys k = true ∧ (rget l h).1.leaf = true
  | d + 1, l, h, k => NodeOk l (rget l h).1 ∧
    (bsF (rget l h).1.keys k = true → (rget l h).1.leaf = false → (rget l h).1.kids.length = (rget l h).1.keys.length + 1 ∧ lastOk d l ((rget l h).1.kids.getD (bsI (rget l h).1.keys k) hdZero) ∧
      remOk d (rput l h ⟨(rget l h).1.leaf, (rget l h).1.keys.set (bsI (rget l h).1.keys k) (lastF d l ((rget l h).1.kids.getD (bsI (rget l h).1.keys k) hdZero)).key, (rget l h).1.kids, (rget l h).1.vals.set (bsI (rget l h).1.keys k) (lastF d l ((rget l h).1.kids.getD (bsI (rget l h).1.keys k) hdZero)).val⟩).1 ((rget l h).1.kids.getD (bsI (rget l h).1.keys k) hdZero) (lastF d l ((rget l h).1.kids.getD (bsI (rget l h).1.keys k) hdZero)).key ∧
      mendOk (remF d (rput l h ⟨(rget l h).1.leaf, (rget l h).1.keys.set (bsI (rget l h).1.keys k) (lastF d l ((rget l h).1.kids.getD (bsI (rget l h).1.keys k) hdZero)).key, (rget l h).1.kids, (rget l h).1.vals.set (bsI (rget l h).1.keys k) (lastF d l ((rget l h).1.kids.getD (bsI (rget l h).1.keys k) hdZero)).val⟩).1 ((rget l h).1.kids.getD (bsI (rget l h).1.keys k) hdZero) (lastF d l ((rget l h).1.kids.getD (bsI (rget l h).1.keys k) hdZero)).key) h (bsI (rget l h).1.keys k)) ∧
    (bsF (rget l h).1.keys k = false → (rget l h).1.kids.length = (rget l h).1.keys.length + 1 ∧ remOk d l ((rget l h).1.kids.getD (bsI (rget l h).1.keys k) hdZero) k ∧ mendOk (remF d l ((rget l h).1.kids.getD (bsI (rget l h).1.keys k) hdZero) k) h (bsI (rget l h).1.keys k))
theorem remOk_node (hO : remOk d l h k) (hn : (rget l h).1 = n) : NodeOk l n := by
  subst hn
  cases d with
  | zero => exact hO.1
  | succ d => exact hO.1
theorem remOk_hit (hO : remOk d l h k) (hn : (rget l h).1 = n) (hf : bsF n.keys k = true) (hl : n.leaf = false) : ∃ e, d = e + 1 ∧ n.kids.length = n.keys.length + 1 ∧ ∀ c, n.kids.getD (bsI n.keys k) hdZero = c → lastOk e l c ∧
    remOk e (rput l h ⟨n.leaf, n.keys.set (bsI n.keys k) (lastF e l c).key, n.kids, n.vals.set (bsI n.keys k) (lastF e l c).val⟩).1 c (lastF e l c).key ∧
    mendOk (remF e (rput l h ⟨n.leaf, n.keys.set (bsI n.keys k) (lastF e l c).key, n.kids, n.vals.set (bsI n.keys k) (lastF e l c).val⟩).1 c (lastF e l c).key) h (bsI n.keys k) := by
  subst hn
  cases d with
  | zero => rw [hO.2.2] at hl; cases hl
  | succ d => exact ⟨d, rfl, (hO.2.1 hf hl).1, fun c hc => by subst hc; exact (hO.2.1 hf hl).2⟩
theorem remOk_miss (hO : remOk d l h k) (hn : (rget l h).1 = n) (hf : bsF n.keys k = false) : ∃ e, d = e + 1 ∧ n.kids.length = n.keys.length + 1 ∧ ∀ c, n.kids.getD (bsI n.keys k) hdZero = c → remOk e l c k ∧ mendOk (remF e l c k) h (bsI n.keys k) := by
  subst hn
  cases d with
  | zero => rw [hO.2.1] at hf; cases hf
  | succ d => exact ⟨d, rfl, (hO.2.2 hf).1, fun c hc => by subst hc; exact (hO.2.2 hf).2⟩
theorem remF_leaf (hn : (rget l h).1 = n) (hf : bsF n.keys k = true) (hl : n.leaf = true) : remF d l h k = (rput l h ⟨n.leaf, n.keys.eraseIdx (bsI n.keys k), n.kids, n.vals.eraseIdx (bsI n.keys k)⟩).1 := by
  subst hn; cases d <;> (unfold remF; simp [hf, hl])
theorem remF_hit (hn : (rget l h).1 = n) (hf : bsF n.keys k = true) (hl : n.leaf = false) (hc : n.kids.getD (bsI n.keys k) hdZero = c1) :
    remF (d + 1) l h k = mendF (remF d (rput l h ⟨n.leaf, n.keys.set (bsI n.keys k) (lastF d l c1).key, n.kids, n.vals.set (bsI n.keys k) (lastF d l c1).val⟩).1 c1 (lastF d l c1).key) h (bsI n.keys k) := by
  subst hn; subst hc
  conv => lhs; unfold remF
  simp only [hf, hl, if_true, Bool.false_eq_true, if_false]
theorem remF_miss (hn : (rget l h).1 = n) (hf : bsF n.keys k = false) (hc : n.kids.getD (bsI n.keys k) hdZero = c1) : remF (d + 1) l h k = mendF (remF d l c1 k) h (bsI n.keys k) := by
  subst hn; subst hc
  conv => lhs; unfold remF
  simp only [hf, Bool.false_eq_true, if_false]
end
end Tp
set_option maxRecDepth 100000
namespace Go.Proofs
open Go Tp
theorem Tryz.el55 : Elem Tryz.prog 55 (Value.agg #[(vS sZ), (vI 0)]) 2 24 := Elem.mk (by kernel_rfl)
theorem Tryz.en75 : Enters Tryz.prog 75 := fun _ _ => by kernel_rfl
theorem tr_last : ∀ (d : Nat) {G X : Nat → Prop} {w : World} (tb ab : Nat) (r : Handle) (fu : Bool) (ln : Int) (l : List RPlace) (S : Nat → Prop) (h : Handle)  (hA : SmallA l) (hO : lastOk d l h) (M : Mem G X w [arenaC 107 112 S ab l] [bF tb #[(vP ab), (vI r.at_), (vI r.turn), (vB fu), (vI ln)] 70] w), Rets Tryz.prog 75 #[(vP tb), (Value.agg #[(vI h.at_), (vI h.turn)])] w fun r w' => r = (Value.agg #[(vS ((lastF d l h).key)), (vI ((lastF d l h).val))]) ∧ Mem G X w [arenaC 107 112 S ab l] [] w' := by
 intro d
 induction d using Nat.strongRecOn
 rename_i d ih
 intro G X w tb ab r fu ln l S h hA hO M
 refine Rets.enter 39 _ Tryz.func75 rfl Tryz.ntmps75 Tryz.results75 (by simp) ?_
 obtain ⟨n, hn⟩ : ∃ n, (rget l h).1 = n := ⟨_, rfl⟩
 obtain ⟨hty, hvl, hk0_⟩ := lastOk_node hO hn
 obtain ⟨ht1, ht2, ht3⟩ := hty
 refine wR ?_
 refine WL.box (v := (Value.agg #[(vI h.at_), (vI h.turn)])) (c := #[(vI h.at_), (vI h.turn)]) M rfl rfl rfl (fun b1 w2 hb1 M => ?_)
 refine WL.alloc (c := #[(vS sZ), (vI 0)]) M rfl Tryz.el55.zero rfl (fun b3 w4 hb3 M => ?_)
 refine WL.nil (wR (wM (vP tb) (wS (Value.agg #[(vI h.at_), (vI h.turn)]) rfl (Step.loadN Tryz.ag68 rfl (M.blk 1 rfl) (Nat.le_of_ble_eq_true rfl) rfl) ?_)))
 have fq := M.frm [arenaC 107 112 S ab l] [bk b3 #[(vS sZ), (vI 0)] 55, bk b1 #[(vI h.at_), (vI h.turn)] 68] [2, 0, 1] rfl
 refine WL.callX rfl (tr_node tb ab r fu ln l S h (by assumption) n hn (M.eF fq ⟨(M.rF fq 0 rfl), trivial⟩)) (CallsF.func Tryz.en52 rfl) ?_
 rintro _ w8 ⟨kv5, dv6, vv7, rfl, m⟩
 replace M := M.lF fq m
 clear m
 have sl9 : IsSl kv5 := SlAt.isSl (own_slAt (Mem.chunk M 1 rfl).inv)
 have hle10 := SlAt.le' (own_slAt (Mem.chunk M 1 rfl).inv)
 have sl11 : IsSl dv6 := SlAt.isSl (own_slAt (Mem.chunk M 2 rfl).inv)
 have hle12 := SlAt.le' (own_slAt (Mem.chunk M 2 rfl).inv)
 have sl13 : IsSl vv7 := SlAt.isSl (own_slAt (Mem.chunk M 3 rfl).inv)
 have hle14 := SlAt.le' (own_slAt (Mem.chunk M 3 rfl).inv)
 refine WL.alloc (c := #[(vB false), vZ, vZ, vZ]) M rfl Tryz.el93.zero rfl (fun b15 w16 hb15 M => ?_)
 refine WL.store (v := (Value.agg #[(vB n.leaf), kv5, dv6, vv7])) (cs := [(vB n.leaf), kv5, dv6, vv7]) (c' := #[(vB n.leaf), kv5, dv6, vv7]) M 0 rfl rfl Tryz.el93.sized rfl rfl rfl rfl (Nat.le_of_ble_eq_true rfl) (cel_cons rfl (cel_cons (IsSl.cel sl9) (cel_cons (IsSl.cel sl11) (cel_cons (IsSl.cel sl13) cel_nil)))) rfl rfl (fun w17 M => ?_)
 refine WL.nil (W.seq' (wR (wP (vP b15) (wS (vB n.leaf) rfl (Step.load1 Tryz.sc4 rfl ((M.cell 0 rfl 0).trans rfl)) (wP (vB !n.leaf) ?_)))))
 refine WL.nil ?_
 refine W.cond (t := !n.leaf) rfl (fun h18 => ?_) (fun h18 => ?_)
 ·
  have hlf_ : n.leaf = false := by simpa using h18
  obtain ⟨e, rfl, hk1_, hO2⟩ := lastOk_kid hO hn hlf_
  refine W.seq' ?_
  replace M := M.loseI 6
  refine W.region rfl (wM (vP tb) (wP (Value.pointer (some ⟨b15, 2, none⟩)) (wS dv6 rfl (Step.load1 Tryz.sc90 rfl ((M.cell 0 rfl 2).trans rfl)) (wP (Value.pointer (some ⟨b15, 2, none⟩)) (wS dv6 rfl (Step.load1 Tryz.sc90 rfl ((M.cell 0 rfl 2).trans rfl)) ?_)))))
  refine wS (vI ↑n.kids.length) rfl (Step.lenSl Tryz.un90 rfl (own_slAt (M.chunk 3 rfl).inv)) (wS (vI (↑(n.kids.length - 1))) rfl (Step.cast (congrArg (Value.int .i64) (show ((↑n.kids.length : Int) - 1 : Int) = ↑(n.kids.length - 1) by omega)) (Step.sub rfl rfl (wrap_i64 (by omega)))) ?_)
  obtain ⟨cap20, hb19⟩ := SlAt.base (own_slAt (M.chunk 3 rfl).inv) (by omega)
  obtain ⟨x21, hx21⟩ := elem_of_lt (xs := n.kids) (i := n.kids.length - 1) (by omega)
  have hgd_ : n.kids.getD (n.kids.length - 1) hdZero = x21 := by rw [List.getD_eq_getElem?_getD, hx21]; rfl
  rw [hgd_] at hO2
  refine wS (vQ dv6 (n.kids.length - 1) 2) rfl (sX (n.kids.length - 1) Tryz.un90 Tryz.el68 rfl rfl hb19) (wS (Value.agg #[(vI x21.at_), (vI x21.turn)]) rfl (Step.loadEN (k := 0) (cs' := [(vI x21.at_), (vI x21.turn)]) Tryz.ag68 (flat_ec (own_slAt (M.chunk 3 rfl).inv) hx21 handleE_len) (by decide) rfl rfl rfl) ?_)
  have fq := M.frm [arenaC 107 112 S ab l] [bk b15 #[(vB n.leaf), kv5, dv6, vv7] 93, oS kv5 n.keys, oH dv6 n.kids, oI vv7 n.vals, bk b3 #[(vS sZ), (vI 0)] 55] [1, 0, 2, 3, 4, 5] rfl
  refine WL.callX rfl (ih e (by omega) tb ab r fu ln l S x21 (by assumption) (by assumption) (M.eF fq ⟨(M.rF fq 0 rfl), trivial⟩)) (CallsF.func Tryz.en75 rfl) ?_
  rintro _ w22 ⟨rfl, m⟩
  replace M := M.lF fq m
  clear m
  refine WL.store (v := (Value.agg #[(vS ((lastF e l x21).key)), (vI ((lastF e l x21).val))])) (cs := [(vS ((lastF e l x21).key)), (vI ((lastF e l x21).val))]) (c' := #[(vS ((lastF e l x21).key)), (vI ((lastF e l x21).val))]) M 5 rfl rfl Tryz.el55.sized rfl rfl rfl rfl (Nat.le_of_ble_eq_true rfl) (cel_cons rfl (cel_cons rfl cel_nil)) rfl rfl (fun w23 M => ?_)
  refine WL.nil ?_
  refine W.ret ?_
  refine ⟨.inl rfl, (Value.agg #[(vS ((lastF e l x21).key)), (vI ((lastF e l x21).val))]), ?_, ?_⟩
  · exact ⟨rfl, (Res.r1 (RV.cellN Tryz.ag55 rfl (M.blk 5 rfl) rfl))⟩
  refine ⟨?_, M.close [0] rfl (by decide) trivial⟩
  rw [lastF_kid hn hlf_, hgd_]
 ·
  have hlf_ : n.leaf = true := by simpa using h18
  refine W.skip (W.seq' ?_)
  replace M := M.loseI 6
  obtain ⟨cap25, hb24⟩ := SlAt.base (own_slAt (M.chunk 2 rfl).inv) (by omega)
  obtain ⟨x26, hx26⟩ := elem_of_lt (xs := n.keys) (i := n.keys.length - 1) (by omega)
  obtain ⟨cap28, hb27⟩ := SlAt.base (own_slAt (M.chunk 4 rfl).inv) (by omega)
  obtain ⟨x29, hx29⟩ := elem_of_lt (xs := n.vals) (i := n.vals.length - 1) (by omega)
  refine W.drawn M [0, 1, 2, 3, 4, 5, 6, 7, 8, 9, 10, 11, 12, 13, 14, 15, 16, 17] [17] [] _ _ (sY (sY (sY (sY (sY (sN sE)))))) (fun _ h => h) Tryz.mixed (by kernel_rfl) ?_
  refine tP (Value.pointer (some ⟨b15, 1, none⟩)) rfl (fun w => sP) ?_
  refine tR kv5 rfl (fun A w M => (Step.load1 Tryz.sc23 rfl ((M.cell 1 rfl 1).trans rfl))) ?_
  refine tP (Value.pointer (some ⟨b15, 1, none⟩)) rfl (fun w => sP) ?_
  refine tR kv5 rfl (fun A w M => (Step.load1 Tryz.sc23 rfl ((M.cell 1 rfl 1).trans rfl))) ?_
  refine tR (vI ↑n.keys.length) rfl (fun A w M => (Step.lenSl Tryz.un23 rfl (own_slAt (M.chunk 3 rfl).inv))) ?_
  refine tP (vI (↑(n.keys.length - 1))) rfl (fun w => (Step.cast (congrArg (Value.int .i64) (show ((↑n.keys.length : Int) - 1 : Int) = ↑(n.keys.length - 1) by omega)) (Step.sub rfl rfl (wrap_i64 (by omega))))) ?_
  refine tP (vQ kv5 (n.keys.length - 1) 1) rfl (fun w => (sX (n.keys.length - 1) Tryz.un23 Tryz.el9 rfl rfl hb24)) ?_
  refine tR (vS x26) rfl (fun A w M => (Step.loadE (k := 0) Tryz.sc9 (flat_ec (own_slAt (M.chunk 3 rfl).inv) hx26 strE_len) (by decide) rfl rfl)) ?_
  refine tP (Value.pointer (some ⟨b15, 3, none⟩)) rfl (fun w => sP) ?_
  refine tR vv7 rfl (fun A w M => (Step.load1 Tryz.sc91 rfl ((M.cell 1 rfl 3).trans rfl))) ?_
  refine tP (Value.pointer (some ⟨b15, 3, none⟩)) rfl (fun w => sP) ?_
  refine tR vv7 rfl (fun A w M => (Step.load1 Tryz.sc91 rfl ((M.cell 1 rfl 3).trans rfl))) ?_
  refine tR (vI ↑n.vals.length) rfl (fun A w M => (Step.lenSl Tryz.un91 rfl (own_slAt (M.chunk 5 rfl).inv))) ?_
  refine tP (vI (↑(n.vals.length - 1))) rfl (fun w => (Step.cast (congrArg (Value.int .i64) (show ((↑n.vals.length : Int) - 1 : Int) = ↑(n.vals.length - 1) by omega)) (Step.sub rfl rfl (wrap_i64 (by omega))))) ?_
  refine tP (vQ vv7 (n.vals.length - 1) 1) rfl (fun w => (sX (n.vals.length - 1) Tryz.un91 Tryz.el3 rfl rfl hb27)) ?_
  refine tR (vI x29) rfl (fun A w M => (Step.loadE (k := 0) Tryz.sc3 (flat_ec (own_slAt (M.chunk 5 rfl).inv) hx29 intE_len) (by decide) rfl rfl)) ?_
  refine tP (Value.agg #[(vS x26), (vI x29)]) rfl (fun w => sP) ?_
  refine TW.store (v := (Value.agg #[(vS x26), (vI x29)])) (cs := [(vS x26), (vI x29)]) (c' := #[(vS x26), (vI x29)]) 5 rfl rfl (by decide) rfl Tryz.el55.sized rfl rfl rfl rfl (Nat.le_of_ble_eq_true rfl) (cel_cons rfl (cel_cons rfl cel_nil)) rfl rfl (sY (sY (sY (sY (sY (sN sE)))))) (fun r h => h) ?_
  refine TW.done (fun w32 M => ?_)
  refine W.ret ?_
  refine ⟨.inl rfl, (Value.agg #[(vS x26), (vI x29)]), ?_, ?_⟩
  · exact ⟨rfl, (Res.r1 (RV.cellN Tryz.ag55 rfl (M.blk 5 rfl) rfl))⟩
  refine ⟨?_, M.close [1] rfl (by decide) trivial⟩
  rw [lastF_leaf hn hlf_]; simp [h18, hx26, hx29]
end Go.Proofs
set_option maxRecDepth 100000
namespace Go.Proofs
open Go Tp
theorem Tryz.en101 : Enters Tryz.prog 101 := fun _ _ => by kernel_rfl
theorem Tryz.en102 : Enters Tryz.prog 102 := fun _ _ => by kernel_rfl
theorem Tryz.en103 : Enters Tryz.prog 103 := fun _ _ => by kernel_rfl
set_option maxHeartbeats 4000000 in
theorem tr_turn {G X : Nat → Prop} {w : World} (tb ab : Nat) (r : Handle) (fu : Bool) (ln : Int) (l : List RPlace) (S : Nat → Prop) (h : Handle) (i : Nat) (lw : Bool)  (hO : pairOk l h i) (M : Mem G X w [arenaC 107 112 S ab l] [bF tb #[(vP ab), (vI r.at_), (vI r.turn), (vB fu), (vI ln)] 70] w) : Rets Tryz.prog 93 #[(vP tb), (Value.agg #[(vI h.at_), (vI h.turn)]), (vI ↑i), (vB lw)] w fun r w' => ∃ (S' : Nat → Prop), r = undef ∧ Mem G X w [arenaC 107 112 S' ab (turnF l h i lw)] [] w' := by
 refine Rets.enter 140 _ Tryz.func93 rfl Tryz.ntmps93 Tryz.results93 (by simp) ?_
 obtain ⟨n, hn⟩ : ∃ n, (rget l h).1 = n := ⟨_, rfl⟩
 obtain ⟨hA, hty, hvl, hin_, hkn_⟩ := pairOk_n hO hn
 obtain ⟨ht1, ht2, ht3⟩ := hty
 refine wR ?_
 refine WL.box (v := (Value.agg #[(vI h.at_), (vI h.turn)])) (c := #[(vI h.at_), (vI h.turn)]) M rfl rfl rfl (fun b1 w2 hb1 M => ?_)
 refine WL.nil (wR (wM (vP tb) (wS (Value.agg #[(vI h.at_), (vI h.turn)]) rfl (Step.loadN Tryz.ag68 rfl (M.blk 0 rfl) (Nat.le_of_ble_eq_true rfl) rfl) ?_)))
 have fq := M.frm [arenaC 107 112 S ab l] [bk b1 #[(vI h.at_), (vI h.turn)] 68] [1, 0] rfl
 refine WL.callX rfl (tr_node tb ab r fu ln l S h (by assumption) n hn (M.eF fq ⟨(M.rF fq 0 rfl), trivial⟩)) (CallsF.func Tryz.en52 rfl) ?_
 rintro _ w6 ⟨kv3, dv4, vv5, rfl, m⟩
 replace M := M.lF fq m
 clear m
 have sl7 : IsSl kv3 := SlAt.isSl (own_slAt (Mem.chunk M 1 rfl).inv)
 have hle8 := SlAt.le' (own_slAt (Mem.chunk M 1 rfl).inv)
 have sl9 : IsSl dv4 := SlAt.isSl (own_slAt (Mem.chunk M 2 rfl).inv)
 have hle10 := SlAt.le' (own_slAt (Mem.chunk M 2 rfl).inv)
 have sl11 : IsSl vv5 := SlAt.isSl (own_slAt (Mem.chunk M 3 rfl).inv)
 have hle12 := SlAt.le' (own_slAt (Mem.chunk M 3 rfl).inv)
 refine WL.alloc (c := #[(vB false), vZ, vZ, vZ]) M rfl Tryz.el93.zero rfl (fun b13 w14 hb13 M => ?_)
 refine WL.store (v := (Value.agg #[(vB n.leaf), kv3, dv4, vv5])) (cs := [(vB n.leaf), kv3, dv4, vv5]) (c' := #[(vB n.leaf), kv3, dv4, vv5]) M 0 rfl rfl Tryz.el93.sized rfl rfl rfl rfl (Nat.le_of_ble_eq_true rfl) (cel_cons rfl (cel_cons (IsSl.cel sl7) (cel_cons (IsSl.cel sl9) (cel_cons (IsSl.cel sl11) cel_nil)))) rfl rfl (fun w15 M => ?_)
 refine WL.nil (W.seq' ?_)
 obtain ⟨cap17, hb16⟩ := SlAt.base (own_slAt (M.chunk 3 rfl).inv) (by omega)
 obtain ⟨x18, hx18⟩ := elem_of_lt (xs := n.kids) (i := i) (by omega)
 have hgd1_ : n.kids.getD i hdZero = x18 := by rw [List.getD_eq_getElem?_getD, hx18]; rfl
 obtain ⟨x22, hx22⟩ := elem_of_lt (xs := n.kids) (i := i + 1) (by omega)
 have hgd2_ : n.kids.getD (i + 1) hdZero = x22 := by rw [List.getD_eq_getElem?_getD, hx22]; rfl
 refine W.drawn M [0, 1, 2, 3, 4, 5, 6, 7, 8, 9, 10, 11, 12, 13, 14, 15, 16, 17, 18] [6, 14, 17, 18] [15, 16] _ _ (sY (sY (sY (sY (sY (sY sE)))))) (fun _ h => h) Tryz.mixed (by kernel_rfl) ?_
 refine tP (vP tb) rfl (fun w => (Step.move rfl)) ?_
 refine tP (Value.pointer (some ⟨b13, 2, none⟩)) rfl (fun w => sP) ?_
 refine tR dv4 rfl (fun A w M => (Step.load1 Tryz.sc90 rfl ((M.cell 1 rfl 2).trans rfl))) ?_
 refine tP (vI ↑i) rfl (fun w => (Step.move rfl)) ?_
 refine tP (vQ dv4 i 2) rfl (fun w => (sX i Tryz.un90 Tryz.el68 rfl rfl hb16)) ?_
 refine tR (Value.agg #[(vI x18.at_), (vI x18.turn)]) rfl (fun A w M => (Step.loadEN (k := 0) (cs' := [(vI x18.at_), (vI x18.turn)]) Tryz.ag68 (flat_ec (own_slAt (M.chunk 4 rfl).inv) hx18 handleE_len) (by decide) rfl rfl rfl)) ?_
 obtain ⟨na_, hna_⟩ : ∃ n, (rget l x18).1 = n := ⟨_, rfl⟩
 let Q : List Chunk := [bk b13 #[(vB n.leaf), kv3, dv4, vv5] 93, oS kv3 n.keys, oH dv4 n.kids, oI vv5 n.vals, bk b1 #[(vI h.at_), (vI h.turn)] 68]
 refine TW.callX (ι := Value × Value × Value) (fun jx v_ => v_ = (Value.agg #[(vB na_.leaf), jx.1, jx.2.1, jx.2.2])) (fun jx => [oS jx.1 na_.keys, oH jx.2.1 na_.kids, oI jx.2.2 na_.vals, bk b13 #[(vB n.leaf), kv3, dv4, vv5] 93, arenaC 107 112 S ab l, oS kv3 n.keys, oH dv4 n.kids, oI vv5 n.vals, bk b1 #[(vI h.at_), (vI h.turn)] 68]) (fun jx => [bF tb #[(vP ab), (vI r.at_), (vI r.turn), (vB fu), (vI ln)] 70]) rfl (by decide) rfl (fun jx => (sN (sN (sN (sY (sY (sY (sY (sY (sY sE)))))))))) (fun jx r h => h) (fun A w M => have fq := M.frm [arenaC 107 112 S ab l] (fl A :: Q) [2, 0, 1, 3, 4, 5, 6] rfl; Rets.mono (tr_node tb ab r fu ln l S x18 (by assumption) na_ hna_ (M.eF fq ⟨(M.rF fq 0 rfl), trivial⟩)) (fun v_ w_ ⟨kv44, dv45, vv46, e_, m⟩ => ⟨(kv44, dv45, vv46), e_, (M.lF fq m).sel [4, 1, 2, 3, 5, 0, 6, 7, 8, 9] rfl (by decide), fun b hb => M.kF fq m b hb⟩)) (fun w => CallsF.func Tryz.en52 rfl) (fun jx v hp hin => ?_)
 obtain ⟨kv44, dv45, vv46⟩ := jx
 replace hp := hp.symm; subst hp
 obtain ⟨_, _, hin⟩ := hin
 have sl47 : IsSl kv44 := SlAt.isSl (own_slAt (Mem.chunk hin 1 rfl).inv)
 have hle48 := SlAt.le' (own_slAt (Mem.chunk hin 1 rfl).inv)
 have sl49 : IsSl dv45 := SlAt.isSl (own_slAt (Mem.chunk hin 2 rfl).inv)
 have hle50 := SlAt.le' (own_slAt (Mem.chunk hin 2 rfl).inv)
 have sl51 : IsSl vv46 := SlAt.isSl (own_slAt (Mem.chunk hin 3 rfl).inv)
 have hle52 := SlAt.le' (own_slAt (Mem.chunk hin 3 rfl).inv)
 clear hin
 refine tP (vP tb) rfl (fun w => (Step.move rfl)) ?_
 refine tP (Value.pointer (some ⟨b13, 2, none⟩)) rfl (fun w => sP) ?_
 refine tR dv4 rfl (fun A w M => (Step.load1 Tryz.sc90 rfl ((M.cell 1 rfl 2).trans rfl))) ?_
 refine tP (vI ↑i) rfl (fun w => (Step.move rfl)) ?_
 refine tP (vI (↑(i + 1))) rfl (fun w => (Step.cast (congrArg (Value.int .i64) (show (↑i + 1 : Int) = ↑(i + 1) by omega)) (Step.add rfl rfl (wrap_i64 (by omega))))) ?_
 refine tP (vQ dv4 (i + 1) 2) rfl (fun w => (sX (i + 1) Tryz.un90 Tryz.el68 rfl rfl hb16)) ?_
 refine tR (Value.agg #[(vI x22.at_), (vI x22.turn)]) rfl (fun A w M => (Step.loadEN (k := 0) (cs' := [(vI x22.at_), (vI x22.turn)]) Tryz.ag68 (flat_ec (own_slAt (M.chunk 4 rfl).inv) hx22 handleE_len) (by decide) rfl rfl rfl)) ?_
 obtain ⟨nb_, hnb_⟩ : ∃ n, (rget l x22).1 = n := ⟨_, rfl⟩
 have hP := pairOk_at hO hn hgd1_ hgd2_ hna_ hnb_
 obtain ⟨hta1, hta2, hta3⟩ := hP.a_
 obtain ⟨htb1, htb2, htb3⟩ := hP.b_
 have hal_ := hP.al
 have hbl_ := hP.bl
 have ha1_ := hP.a1
 have hb1_ := hP.b1
 have hlfb_ := hP.lf
 let Q : List Chunk := [oS kv44 na_.keys, oH dv45 na_.kids, oI vv46 na_.vals, bk b13 #[(vB n.leaf), kv3, dv4, vv5] 93, oS kv3 n.keys, oH dv4 n.kids, oI vv5 n.vals, bk b1 #[(vI h.at_), (vI h.turn)] 68]
 refine TW.callX (ι := Value × Value × Value) (fun jx v_ => v_ = (Value.agg #[(vB nb_.leaf), jx.1, jx.2.1, jx.2.2])) (fun jx => [oS jx.1 nb_.keys, oH jx.2.1 nb_.kids, oI jx.2.2 nb_.vals, oS kv44 na_.keys, oH dv45 na_.kids, oI vv46 na_.vals, bk b13 #[(vB n.leaf), kv3, dv4, vv5] 93, arenaC 107 112 S ab l, oS kv3 n.keys, oH dv4 n.kids, oI vv5 n.vals, bk b1 #[(vI h.at_), (vI h.turn)] 68]) (fun jx => [bF tb #[(vP ab), (vI r.at_), (vI r.turn), (vB fu), (vI ln)] 70]) rfl (by decide) rfl (fun jx => (sN (sN (sN (sN (sN (sN (sY (sY (sY (sY (sY (sY sE))))))))))))) (fun jx r h => h) (fun A w M => have fq := M.frm [arenaC 107 112 S ab l] (fl A :: Q) [5, 0, 1, 2, 3, 4, 6, 7, 8, 9] rfl; Rets.mono (tr_node tb ab r fu ln l S x22 (by assumption) nb_ hnb_ (M.eF fq ⟨(M.rF fq 0 rfl), trivial⟩)) (fun v_ w_ ⟨kv53, dv54, vv55, e_, m⟩ => ⟨(kv53, dv54, vv55), e_, (M.lF fq m).sel [4, 1, 2, 3, 5, 6, 7, 8, 0, 9, 10, 11, 12] rfl (by decide), fun b hb => M.kF fq m b hb⟩)) (fun w => CallsF.func Tryz.en52 rfl) (fun jx v hp hin => ?_)
 obtain ⟨kv53, dv54, vv55⟩ := jx
 replace hp := hp.symm; subst hp
 obtain ⟨_, _, hin⟩ := hin
 have sl56 : IsSl kv53 := SlAt.isSl (own_slAt (Mem.chunk hin 1 rfl).inv)
 have hle57 := SlAt.le' (own_slAt (Mem.chunk hin 1 rfl).inv)
 have sl58 : IsSl dv54 := SlAt.isSl (own_slAt (Mem.chunk hin 2 rfl).inv)
 have hle59 := SlAt.le' (own_slAt (Mem.chunk hin 2 rfl).inv)
 have sl60 : IsSl vv55 := SlAt.isSl (own_slAt (Mem.chunk hin 3 rfl).inv)
 have hle61 := SlAt.le' (own_slAt (Mem.chunk hin 3 rfl).inv)
 clear hin
 refine TW.new (obj := .cells #[(vB false), vZ, vZ, vZ] 93) (fun b => .pointer (some ⟨b, 0, none⟩)) rfl (by decide) (by decide) rfl (fun w => Step.alloc Tryz.el93.zero) (fun b62 => ?_)
 refine TW.new (obj := .cells #[(vB false), vZ, vZ, vZ] 93) (fun b => .pointer (some ⟨b, 0, none⟩)) rfl (by decide) (by decide) rfl (fun w => Step.alloc Tryz.el93.zero) (fun b63 => ?_)
 refine TW.store (v := (Value.agg #[(vB na_.leaf), kv44, dv45, vv46])) (cs := [(vB na_.leaf), kv44, dv45, vv46]) (c' := #[(vB na_.leaf), kv44, dv45, vv46]) 1 rfl rfl (by decide) rfl Tryz.el93.sized rfl rfl rfl rfl (Nat.le_of_ble_eq_true rfl) (cel_cons rfl (cel_cons (IsSl.cel sl47) (cel_cons (IsSl.cel sl49) (cel_cons (IsSl.cel sl51) cel_nil)))) rfl rfl (sN (sN (sN (sN (sN (sN (sN (sN (sY (sY (sY (sY (sY (sY sE)))))))))))))) (fun r h => h) ?_
 refine TW.store (v := (Value.agg #[(vB nb_.leaf), kv53, dv54, vv55])) (cs := [(vB nb_.leaf), kv53, dv54, vv55]) (c' := #[(vB nb_.leaf), kv53, dv54, vv55]) 0 rfl rfl (by decide) rfl Tryz.el93.sized rfl rfl rfl rfl (Nat.le_of_ble_eq_true rfl) (cel_cons rfl (cel_cons (IsSl.cel sl56) (cel_cons (IsSl.cel sl58) (cel_cons (IsSl.cel sl60) cel_nil)))) rfl rfl (sN (sN (sN (sN (sN (sN (sN (sN (sY (sY (sY (sY (sY (sY sE)))))))))))))) (fun r h => h) ?_
 refine TW.done (fun w64 M => ?_)
 refine W.seq' ?_
 have hsh65 := SlAt.shp (own_slAt (M.chunk 10 rfl).inv)
 have hsh65c := hsh65
 obtain ⟨_, _, hsh65l, hsh65m⟩ := hsh65c
 refine W.drawn M [0, 1, 2, 3, 4, 5, 6, 7, 8, 9, 10, 11, 12] [11] [10] _ _ (sY (sY (sY (sY (sY (sY (sY (sY (sY (sY (sY (sY (sY (sY sE)))))))))))))) (fun _ h => h) Tryz.mixed (by kernel_rfl) ?_
 refine tP (Value.pointer (some ⟨b62, 1, none⟩)) rfl (fun w => sP) ?_
 refine tR kv44 rfl (fun A w M => (Step.load1 Tryz.sc23 rfl ((M.cell 2 rfl 1).trans rfl))) ?_
 refine tP (Value.pointer (some ⟨b13, 1, none⟩)) rfl (fun w => sP) ?_
 refine tR kv3 rfl (fun A w M => (Step.load1 Tryz.sc23 rfl ((M.cell 9 rfl 1).trans rfl))) ?_
 refine tP (vI ↑i) rfl (fun w => (Step.move rfl)) ?_
 refine tP (vI ↑i) rfl (fun w => (Step.move rfl)) ?_
 refine tP (vI (↑(i + 1))) rfl (fun w => (Step.cast (congrArg (Value.int .i64) (show (↑i + 1 : Int) = ↑(i + 1) by omega)) (Step.add rfl rfl (wrap_i64 (by omega))))) ?_
 refine tP (vSlice 1 i (i + 1) (vCap kv3) kv3) rfl (fun w => (Step.sliceLHP (l := i) (h := i + 1) Tryz.un23 Tryz.el9.sized rfl rfl (by omega) rfl (by omega) hsh65 (by omega) (by obtain ⟨_, _, _, _⟩ := hsh65; omega))) ?_
 refine tP (Value.pointer (some ⟨b63, 1, none⟩)) rfl (fun w => sP) ?_
 refine tR kv53 rfl (fun A w M => (Step.load1 Tryz.sc23 rfl ((M.cell 1 rfl 1).trans rfl))) ?_
 refine TW.new (obj := .cells #[kv44, (vSlice 1 i (i + 1) (vCap kv3) kv3), kv53] 23) (fun b => .slice (some ⟨b, 0, none⟩) 3 3) rfl (by decide) (by decide) rfl (fun w => (by obtain ⟨_, _, _, e⟩ := sl47; subst e; obtain ⟨_, _, _, e⟩ := (vSlice_sl (Shp.isSl hsh65)); rw [e]; obtain ⟨_, _, _, e⟩ := sl56; subst e; exact Step.make (by kernel_rfl))) (fun b72 => ?_)
 let Q : List Chunk := [bk b72 #[kv44, (vSlice 1 i (i + 1) (vCap kv3) kv3), kv53] 23, bk b63 #[(vB nb_.leaf), kv53, dv54, vv55] 93, bk b62 #[(vB na_.leaf), kv44, dv45, vv46] 93, oS kv53 nb_.keys, oH dv54 nb_.kids, oI vv55 nb_.vals, oS kv44 na_.keys, oH dv45 na_.kids, oI vv46 na_.vals, bk b13 #[(vB n.leaf), kv3, dv4, vv5] 93, arenaC 107 112 S ab l, oS kv3 n.keys, oH dv4 n.kids, oI vv5 n.vals, bk b1 #[(vI h.at_), (vI h.turn)] 68]
 refine TW.callX (ι := Value) (fun jx v_ => v_ = jx) (fun jx => oS jx (([na_.keys, (n.keys.drop i).take ((i + 1) - i), nb_.keys] : List (List ByteArray)).flatten) :: Q) (fun jx => [bF tb #[(vP ab), (vI r.at_), (vI r.turn), (vB fu), (vI ln)] 70]) rfl (by decide) rfl (fun jx => (sN (sN (sY (sY (sY (sY (sY (sY (sY (sY (sY (sY (sY (sY (sY (sY sE))))))))))))))))) (fun jx r h => h) (fun A w M => Rets.mono (concat_str (Value.slice (some ⟨b72, 0, none⟩) 3 3) ([na_.keys, (n.keys.drop i).take ((i + 1) - i), nb_.keys] : List (List ByteArray)) (by simp [sumL]; omega) (by simp) (M.enterW0 ⟨((((M.wideC0 1 rfl)).and (((M.wideC0 7 rfl).imp fun _ h => own_slAt h).and (((((M.wideC0 12 rfl).imp fun _ h => own_slAt h)).imp fun _ h => slat_sliceF strE_len (l := i) (h := i + 1) h (by omega) (by omega) (Nat.le_trans (by omega) (SlAt.cap h).1) (Nat.le_refl _)).and ((M.wideC0 4 rfl).imp fun _ h => own_slAt h)))).imp fun _ ⟨hb_, hq0_, hq1_, hq2_⟩ => repS_blk (SlsT 1 strE) (cs := [kv44, (vSlice 1 i (i + 1) (vCap kv3) kv3), kv53]) (xs := [na_.keys, (n.keys.drop i).take ((i + 1) - i), nb_.keys]) hb_ rfl (by decide) (repL_snoc (T := (SlsT 1 strE)) (new := [kv53]) (x := nb_.keys) (repL_snoc (T := (SlsT 1 strE)) (new := [(vSlice 1 i (i + 1) (vCap kv3) kv3)]) (x := (n.keys.drop i).take ((i + 1) - i)) (repL_snoc (T := (SlsT 1 strE)) (new := [kv44]) (x := na_.keys) repL_nil (⟨_, rfl, hq0_⟩ : slRep 1 strE _ _ _)) (⟨_, rfl, hq1_⟩ : slRep 1 strE _ _ _)) (⟨_, rfl, hq2_⟩ : slRep 1 strE _ _ _))), trivial⟩)) (fun v_ w_ ⟨v73, e_, m⟩ => ⟨v73, e_, (M.leaveW0 m).sel [1, 0, 2, 3, 4, 5, 6, 7, 8, 9, 10, 11, 12, 13, 14, 15, 16] rfl (by decide), fun b hb => M.k0F m b hb⟩)) (fun w => CallsF.func Tryz.en101 rfl) (fun v73 v hp hin => ?_)
 replace hp := hp.symm; subst hp
 obtain ⟨_, _, hin⟩ := hin
 have sl74 : IsSl v73 := SlAt.isSl (own_slAt (Mem.chunk hin 1 rfl).inv)
 have hle75 := SlAt.le' (own_slAt (Mem.chunk hin 1 rfl).inv)
 clear hin
 refine tP v73 rfl (fun w => (Step.assign rfl)) ?_
 refine TW.done (fun w76 M => ?_)
 refine W.seq' ?_
 replace M := M.loseI 1
 have hsh77 := SlAt.shp (own_slAt (M.chunk 13 rfl).inv)
 have hsh77c := hsh77
 obtain ⟨_, _, hsh77l, hsh77m⟩ := hsh77c
 refine W.drawn M [0, 1, 2, 3, 4, 5, 6, 7, 8, 9, 10, 11, 12] [11] [10] _ _ (sY (sY (sY (sY (sY (sY (sY (sY (sY (sY (sY (sY (sY (sY (sY sE))))))))))))))) (fun _ h => h) Tryz.mixed (by kernel_rfl) ?_
 refine tP (Value.pointer (some ⟨b62, 3, none⟩)) rfl (fun w => sP) ?_
 refine tR vv46 rfl (fun A w M => (Step.load1 Tryz.sc91 rfl ((M.cell 3 rfl 3).trans rfl))) ?_
 refine tP (Value.pointer (some ⟨b13, 3, none⟩)) rfl (fun w => sP) ?_
 refine tR vv5 rfl (fun A w M => (Step.load1 Tryz.sc91 rfl ((M.cell 10 rfl 3).trans rfl))) ?_
 refine tP (vI ↑i) rfl (fun w => (Step.move rfl)) ?_
 refine tP (vI ↑i) rfl (fun w => (Step.move rfl)) ?_
 refine tP (vI (↑(i + 1))) rfl (fun w => (Step.cast (congrArg (Value.int .i64) (show (↑i + 1 : Int) = ↑(i + 1) by omega)) (Step.add rfl rfl (wrap_i64 (by omega))))) ?_
 refine tP (vSlice 1 i (i + 1) (vCap vv5) vv5) rfl (fun w => (Step.sliceLHP (l := i) (h := i + 1) Tryz.un91 Tryz.el3.sized rfl rfl (by omega) rfl (by omega) hsh77 (by omega) (by obtain ⟨_, _, _, _⟩ := hsh77; omega))) ?_
 refine tP (Value.pointer (some ⟨b63, 3, none⟩)) rfl (fun w => sP) ?_
 refine tR vv55 rfl (fun A w M => (Step.load1 Tryz.sc91 rfl ((M.cell 2 rfl 3).trans rfl))) ?_
 refine TW.new (obj := .cells #[vv46, (vSlice 1 i (i + 1) (vCap vv5) vv5), vv55] 91) (fun b => .slice (some ⟨b, 0, none⟩) 3 3) rfl (by decide) (by decide) rfl (fun w => (by obtain ⟨_, _, _, e⟩ := sl51; subst e; obtain ⟨_, _, _, e⟩ := (vSlice_sl (Shp.isSl hsh77)); rw [e]; obtain ⟨_, _, _, e⟩ := sl60; subst e; exact Step.make (by kernel_rfl))) (fun b84 => ?_)
 let Q : List Chunk := [bk b84 #[vv46, (vSlice 1 i (i + 1) (vCap vv5) vv5), vv55] 91, oS v73 (([na_.keys, (n.keys.drop i).take ((i + 1) - i), nb_.keys] : List (List ByteArray)).flatten), bk b63 #[(vB nb_.leaf), kv53, dv54, vv55] 93, bk b62 #[(vB na_.leaf), kv44, dv45, vv46] 93, oS kv53 nb_.keys, oH dv54 nb_.kids, oI vv55 nb_.vals, oS kv44 na_.keys, oH dv45 na_.kids, oI vv46 na_.vals, bk b13 #[(vB n.leaf), kv3, dv4, vv5] 93, arenaC 107 112 S ab l, oS kv3 n.keys, oH dv4 n.kids, oI vv5 n.vals, bk b1 #[(vI h.at_), (vI h.turn)] 68]
 refine TW.callX (ι := Value) (fun jx v_ => v_ = jx) (fun jx => oI jx (([na_.vals, (n.vals.drop i).take ((i + 1) - i), nb_.vals] : List (List Int)).flatten) :: Q) (fun jx => [bF tb #[(vP ab), (vI r.at_), (vI r.turn), (vB fu), (vI ln)] 70]) rfl (by decide) rfl (fun jx => (sN (sN (sY (sY (sY (sY (sY (sY (sY (sY (sY (sY (sY (sY (sY (sY (sY sE)))))))))))))))))) (fun jx r h => h) (fun A w M => Rets.mono (concat_int (Value.slice (some ⟨b84, 0, none⟩) 3 3) ([na_.vals, (n.vals.drop i).take ((i + 1) - i), nb_.vals] : List (List Int)) (by simp [sumL]; omega) (by simp) (M.enterW0 ⟨((((M.wideC0 1 rfl)).and (((M.wideC0 10 rfl).imp fun _ h => own_slAt h).and (((((M.wideC0 15 rfl).imp fun _ h => own_slAt h)).imp fun _ h => slat_sliceF intE_len (l := i) (h := i + 1) h (by omega) (by omega) (Nat.le_trans (by omega) (SlAt.cap h).1) (Nat.le_refl _)).and ((M.wideC0 7 rfl).imp fun _ h => own_slAt h)))).imp fun _ ⟨hb_, hq0_, hq1_, hq2_⟩ => repS_blk (SlsT 1 intE) (cs := [vv46, (vSlice 1 i (i + 1) (vCap vv5) vv5), vv55]) (xs := [na_.vals, (n.vals.drop i).take ((i + 1) - i), nb_.vals]) hb_ rfl (by decide) (repL_snoc (T := (SlsT 1 intE)) (new := [vv55]) (x := nb_.vals) (repL_snoc (T := (SlsT 1 intE)) (new := [(vSlice 1 i (i + 1) (vCap vv5) vv5)]) (x := (n.vals.drop i).take ((i + 1) - i)) (repL_snoc (T := (SlsT 1 intE)) (new := [vv46]) (x := na_.vals) repL_nil (⟨_, rfl, hq0_⟩ : slRep 1 intE _ _ _)) (⟨_, rfl, hq1_⟩ : slRep 1 intE _ _ _)) (⟨_, rfl, hq2_⟩ : slRep 1 intE _ _ _))), trivial⟩)) (fun v_ w_ ⟨v85, e_, m⟩ => ⟨v85, e_, (M.leaveW0 m).sel [1, 0, 2, 3, 4, 5, 6, 7, 8, 9, 10, 11, 12, 13, 14, 15, 16, 17] rfl (by decide), fun b hb => M.k0F m b hb⟩)) (fun w => CallsF.func Tryz.en102 rfl) (fun v85 v hp hin => ?_)
 replace hp := hp.symm; subst hp
 obtain ⟨_, _, hin⟩ := hin
 have sl86 : IsSl v85 := SlAt.isSl (own_slAt (Mem.chunk hin 1 rfl).inv)
 have hle87 := SlAt.le' (own_slAt (Mem.chunk hin 1 rfl).inv)
 clear hin
 refine tP v85 rfl (fun w => (Step.assign rfl)) ?_
 refine TW.done (fun w88 M => ?_)
 refine W.seq' ?_
 replace M := M.loseI 1
 have hcat_keys : ([na_.keys, (n.keys.drop i).take ((i + 1) - i), nb_.keys] : List (List ByteArray)).flatten = na_.keys ++ ((n.keys.drop i).take 1 ++ nb_.keys) := by simp [Nat.add_sub_cancel_left]
 replace M := M.rechunk 1 (c' := oS v73 (na_.keys ++ ((n.keys.drop i).take 1 ++ nb_.keys))) rfl (by rw [hcat_keys])
 have hcl_keys : (na_.keys ++ ((n.keys.drop i).take 1 ++ nb_.keys)).length = na_.keys.length + (1 + nb_.keys.length) := by simp; try omega
 have hcat_vals : ([na_.vals, (n.vals.drop i).take ((i + 1) - i), nb_.vals] : List (List Int)).flatten = na_.vals ++ ((n.vals.drop i).take 1 ++ nb_.vals) := by simp [Nat.add_sub_cancel_left]
 replace M := M.rechunk 0 (c' := oI v85 (na_.vals ++ ((n.vals.drop i).take 1 ++ nb_.vals))) rfl (by rw [hcat_vals])
 have hcl_vals : (na_.vals ++ ((n.vals.drop i).take 1 ++ nb_.vals)).length = na_.vals.length + (1 + nb_.vals.length) := by simp; try omega
 refine W.region rfl (wP (Value.pointer (some ⟨b62, 2, none⟩)) (wS dv45 rfl (Step.load1 Tryz.sc90 rfl ((M.cell 3 rfl 2).trans rfl)) (wP (Value.pointer (some ⟨b63, 2, none⟩)) (wS dv54 rfl (Step.load1 Tryz.sc90 rfl ((M.cell 2 rfl 2).trans rfl)) ?_))))
 refine WL.new (obj := .cells #[dv45, dv54] 90) (fun b => .slice (some ⟨b, 0, none⟩) 2 2) M rfl (fun w => (by obtain ⟨_, _, _, e⟩ := sl49; subst e; obtain ⟨_, _, _, e⟩ := sl58; subst e; exact Step.make (by kernel_rfl))) (fun b89 w90 hb89 M => ?_)
 refine WL.callX rfl (concat_hdl (Value.slice (some ⟨b89, 0, none⟩) 2 2) ([na_.kids, nb_.kids] : List (List Handle)) (by simp [sumL]; omega) (by simp) (M.enterW0 ⟨((((M.wideC0 0 rfl)).and (((M.wideC0 9 rfl).imp fun _ h => own_slAt h).and ((M.wideC0 6 rfl).imp fun _ h => own_slAt h))).imp fun _ ⟨hb_, hq0_, hq1_⟩ => repS_blk (SlsT 2 handleE) (cs := [dv45, dv54]) (xs := [na_.kids, nb_.kids]) hb_ rfl (by decide) (repL_snoc (T := (SlsT 2 handleE)) (new := [dv54]) (x := nb_.kids) (repL_snoc (T := (SlsT 2 handleE)) (new := [dv45]) (x := na_.kids) repL_nil (⟨_, rfl, hq0_⟩ : slRep 2 handleE _ _ _)) (⟨_, rfl, hq1_⟩ : slRep 2 handleE _ _ _))), trivial⟩)) (CallsF.func Tryz.en103 rfl) ?_
 rintro v91 w92 ⟨_, rfl, m⟩
 replace M := M.leaveW0 m
 clear m
 have sl93 : IsSl v91 := SlAt.isSl (own_slAt (Mem.chunk M 0 rfl).inv)
 have hle94 := SlAt.le' (own_slAt (Mem.chunk M 0 rfl).inv)
 refine wA v91 (WL.nil (W.seq' ?_))
 have hcat_kids : ([na_.kids, nb_.kids] : List (List Handle)).flatten = na_.kids ++ nb_.kids := by simp [Nat.add_sub_cancel_left]
 replace M := M.rechunk 0 (c' := oH v91 (na_.kids ++ nb_.kids)) rfl (by rw [hcat_kids])
 have hcl_kids : (na_.kids ++ nb_.kids).length = na_.kids.length + nb_.kids.length := by simp; try omega
 refine W.region rfl (wP (Value.pointer (some ⟨b62, 1, none⟩)) (wS kv44 rfl (Step.load1 Tryz.sc23 rfl ((M.cell 5 rfl 1).trans rfl)) (wS (vI ↑na_.keys.length) rfl (Step.lenSl Tryz.un23 rfl (own_slAt (M.chunk 9 rfl).inv)) (wS (vI (↑(na_.keys.length - 1))) rfl (Step.cast (congrArg (Value.int .i64) (show ((↑na_.keys.length : Int) - 1 : Int) = ↑(na_.keys.length - 1) by omega)) (Step.sub rfl rfl (wrap_i64 (by omega)))) (wA (vI (↑(na_.keys.length - 1))) ?_)))))
 refine WL.nil (W.seq' (wR (wM (vB lw) (WL.nil ?_))))
 obtain ⟨at_, hat_⟩ : ∃ q, (if lw then na_.keys.length + 1 else na_.keys.length - 1) = q := ⟨_, rfl⟩
 have hatl_ : at_ ≤ na_.keys.length + 1 := by rw [← hat_]; split <;> omega
 refine W.join (fun ρ w' => ρ.has [(0, (vP tb)), (1, (Value.agg #[(vI h.at_), (vI h.turn)])), (2, (vI ↑i)), (3, (vB lw)), (5, (vP b1)), (8, (vP b13)), (9, (vP b62)), (10, (vP b63)), (11, v73), (12, v85), (13, v91), (14, (vI ↑at_)), (15, (vP tb)), (16, (Value.agg #[(vI h.at_), (vI h.turn)])), (17, (Value.agg #[(vB n.leaf), kv3, dv4, vv5])), (18, (vP tb)), (19, (Value.pointer (some ⟨b13, 2, none⟩))), (20, dv4), (21, (vI ↑i)), (22, (vQ dv4 i 2)), (23, (Value.agg #[(vI x18.at_), (vI x18.turn)])), (24, (Value.agg #[(vB na_.leaf), kv44, dv45, vv46])), (25, (vP tb)), (26, (Value.pointer (some ⟨b13, 2, none⟩))), (27, dv4), (28, (vI ↑i)), (29, (vI (↑(i + 1)))), (30, (vQ dv4 (i + 1) 2)), (31, (Value.agg #[(vI x22.at_), (vI x22.turn)])), (32, (Value.agg #[(vB nb_.leaf), kv53, dv54, vv55])), (33, (Value.pointer (some ⟨b62, 1, none⟩))), (34, kv44), (35, (Value.pointer (some ⟨b13, 1, none⟩))), (36, kv3), (37, (vI ↑i)), (38, (vI ↑i)), (39, (vI (↑(i + 1)))), (40, (vSlice 1 i (i + 1) (vCap kv3) kv3)), (41, (Value.pointer (some ⟨b63, 1, none⟩))), (42, kv53), (43, (Value.slice (some ⟨b72, 0, none⟩) 3 3)), (44, v73), (45, (Value.pointer (some ⟨b62, 3, none⟩))), (46, vv46), (47, (Value.pointer (some ⟨b13, 3, none⟩))), (48, vv5), (49, (vI ↑i)), (50, (vI ↑i)), (51, (vI (↑(i + 1)))), (52, (vSlice 1 i (i + 1) (vCap vv5) vv5)), (53, (Value.pointer (some ⟨b63, 3, none⟩))), (54, vv55), (55, (Value.slice (some ⟨b84, 0, none⟩) 3 3)), (56, v85), (57, (Value.pointer (some ⟨b62, 2, none⟩))), (58, dv45), (59, (Value.pointer (some ⟨b63, 2, none⟩))), (60, dv54), (61, (Value.slice (some ⟨b89, 0, none⟩) 2 2)), (62, v91), (63, (Value.pointer (some ⟨b62, 1, none⟩))), (64, kv44), (65, (vI ↑na_.keys.length)), (66, (vI (↑(na_.keys.length - 1)))), (67, (vB lw))] ∧ Mem G X w [oH v91 (na_.kids ++ nb_.kids), bk b89 #[dv45, dv54] 90, oI v85 (na_.vals ++ ((n.vals.drop i).take 1 ++ nb_.vals)), oS v73 (na_.keys ++ ((n.keys.drop i).take 1 ++ nb_.keys)), bk b63 #[(vB nb_.leaf), kv53, dv54, vv55] 93, bk b62 #[(vB na_.leaf), kv44, dv45, vv46] 93, oS kv53 nb_.keys, oH dv54 nb_.kids, oI vv55 nb_.vals, oS kv44 na_.keys, oH dv45 na_.kids, oI vv46 na_.vals, bk b13 #[(vB n.leaf), kv3, dv4, vv5] 93, arenaC 107 112 S ab l, oS kv3 n.keys, oH dv4 n.kids, oI vv5 n.vals, bk b1 #[(vI h.at_), (vI h.turn)] 68] [bF tb #[(vP ab), (vI r.at_), (vI r.turn), (vB fu), (vI ln)] 70] w') ?_ ?_
 ·
  refine W.cond (t := lw) rfl (fun h95 => ?_) (fun h95 => ?_)
  ·
   refine W.region rfl (wP (Value.pointer (some ⟨b62, 1, none⟩)) (wS kv44 rfl (Step.load1 Tryz.sc23 rfl ((M.cell 5 rfl 1).trans rfl)) (wS (vI ↑na_.keys.length) rfl (Step.lenSl Tryz.un23 rfl (own_slAt (M.chunk 9 rfl).inv)) (wS (vI (↑(na_.keys.length + 1))) rfl (Step.cast (congrArg (Value.int .i64) (show (↑na_.keys.length + 1 : Int) = ↑(na_.keys.length + 1) by omega)) (Step.add rfl rfl (wrap_i64 (by omega)))) (wA (vI (↑(na_.keys.length + 1))) ?_)))))
   refine WL.nil ?_
   exact ⟨⟨rfl, rfl, rfl, rfl, rfl, rfl, rfl, rfl, rfl, rfl, rfl, (congrArg (Value.int .i64) (show (↑(na_.keys.length + 1) : Int) = ↑at_ by rw [← hat_]; simp only [h95, if_true, Bool.false_eq_true, if_false] <;> omega)), rfl, rfl, rfl, rfl, rfl, rfl, rfl, rfl, rfl, rfl, rfl, rfl, rfl, rfl, rfl, rfl, rfl, rfl, rfl, rfl, rfl, rfl, rfl, rfl, rfl, rfl, rfl, rfl, rfl, rfl, rfl, rfl, rfl, rfl, rfl, rfl, rfl, rfl, rfl, rfl, rfl, rfl, rfl, rfl, rfl, rfl, rfl, rfl, rfl, rfl, rfl, rfl, rfl, rfl, rfl⟩, M⟩
  ·
   refine W.skip ?_
   exact ⟨⟨rfl, rfl, rfl, rfl, rfl, rfl, rfl, rfl, rfl, rfl, rfl, (congrArg (Value.int .i64) (show (↑(na_.keys.length - 1) : Int) = ↑at_ by rw [← hat_]; simp only [h95, if_true, Bool.false_eq_true, if_false] <;> omega)), rfl, rfl, rfl, rfl, rfl, rfl, rfl, rfl, rfl, rfl, rfl, rfl, rfl, rfl, rfl, rfl, rfl, rfl, rfl, rfl, rfl, rfl, rfl, rfl, rfl, rfl, rfl, rfl, rfl, rfl, rfl, rfl, rfl, rfl, rfl, rfl, rfl, rfl, rfl, rfl, rfl, rfl, rfl, rfl, rfl, rfl, rfl, rfl, rfl, rfl, rfl, rfl, rfl, rfl, rfl⟩, M⟩
 ·
  rintro ρ96 w97 ⟨hρ, M⟩
  obtain ⟨ρ96, rfl⟩ := hρ.know
  clear hρ
  refine W.seq' ?_
  replace M := M.loseI 1
  obtain ⟨cap99, hb98⟩ := SlAt.base (own_slAt (M.chunk 2 rfl).inv) (by omega)
  obtain ⟨x100, hx100⟩ := elem_of_lt (xs := na_.keys ++ ((n.keys.drop i).take 1 ++ nb_.keys)) (i := at_) (by omega)
  obtain ⟨cap102, hb101⟩ := SlAt.base (own_slAt (M.chunk 1 rfl).inv) (by omega)
  obtain ⟨x103, hx103⟩ := elem_of_lt (xs := na_.vals ++ ((n.vals.drop i).take 1 ++ nb_.vals)) (i := at_) (by omega)
  obtain ⟨cap105, hb104⟩ := SlAt.base (own_slAt (M.chunk 13 rfl).inv) (by omega)
  obtain ⟨x106, hx106⟩ := elem_of_lt (xs := n.keys) (i := i) (by omega)
  obtain ⟨pre107, post108, hcs109, hpre110, hback111⟩ := flat_open strE_len hx106
  replace M := M.rechunk 13 (c' := own 9 1 kv3 n.keys.length (pre107 ++ ([(vS x106)] ++ post108))) rfl (by show own 9 1 kv3 n.keys.length (n.keys.flatMap strE) = _; rw [hcs109]; rfl)
  obtain ⟨cap113, hb112⟩ := SlAt.base (own_slAt (M.chunk 15 rfl).inv) (by omega)
  obtain ⟨x114, hx114⟩ := elem_of_lt (xs := n.vals) (i := i) (by omega)
  obtain ⟨pre115, post116, hcs117, hpre118, hback119⟩ := flat_open intE_len hx114
  replace M := M.rechunk 15 (c' := own 3 1 vv5 n.vals.length (pre115 ++ ([(vI x114)] ++ post116))) rfl (by show own 3 1 vv5 n.vals.length (n.vals.flatMap intE) = _; rw [hcs117]; rfl)
  refine W.drawn M [0, 1, 2, 3, 4, 5, 6, 7, 8, 9, 10, 11, 12, 13, 14, 15, 16, 17] [15, 17] [] _ _ (sY (sY (sY (sY (sY (sY (sY (sY (sY (sY (sY (sY (sY (sN (sY (sN (sY sE))))))))))))))))) (fun _ h => h) Tryz.mixed (by kernel_rfl) ?_
  refine tP (Value.pointer (some ⟨b13, 1, none⟩)) rfl (fun w => sP) ?_
  refine tR kv3 rfl (fun A w M => (Step.load1 Tryz.sc23 rfl ((M.cell 12 rfl 1).trans rfl))) ?_
  refine tP (vI ↑i) rfl (fun w => (Step.move rfl)) ?_
  refine tP (Value.pointer (some ⟨b13, 3, none⟩)) rfl (fun w => sP) ?_
  refine tR vv5 rfl (fun A w M => (Step.load1 Tryz.sc91 rfl ((M.cell 12 rfl 3).trans rfl))) ?_
  refine tP (vI ↑i) rfl (fun w => (Step.move rfl)) ?_
  refine tP v73 rfl (fun w => (Step.move rfl)) ?_
  refine tP (vI ↑at_) rfl (fun w => (Step.move rfl)) ?_
  refine tP (vQ v73 at_ 1) rfl (fun w => (sX at_ Tryz.un23 Tryz.el9 rfl rfl hb98)) ?_
  refine tR (vS x100) rfl (fun A w M => (Step.loadE (k := 0) Tryz.sc9 (flat_ec (own_slAt (M.chunk 3 rfl).inv) hx100 strE_len) (by decide) rfl rfl)) ?_
  refine tP v85 rfl (fun w => (Step.move rfl)) ?_
  refine tP (vI ↑at_) rfl (fun w => (Step.move rfl)) ?_
  refine tP (vQ v85 at_ 1) rfl (fun w => (sX at_ Tryz.un91 Tryz.el3 rfl rfl hb101)) ?_
  refine tR (vI x103) rfl (fun A w M => (Step.loadE (k := 0) Tryz.sc3 (flat_ec (own_slAt (M.chunk 2 rfl).inv) hx103 intE_len) (by decide) rfl rfl)) ?_
  refine tP (vQ kv3 i 1) rfl (fun w => (sX i Tryz.un23 Tryz.el9 rfl rfl hb104)) ?_
  refine TW.act (c' := own 9 1 kv3 n.keys.length (pre107 ++ ([(vS x100)] ++ post108))) 13 rfl rfl (by decide) rfl (sY (sY (sY (sY (sY (sY (sY (sY (sY (sY (sY (sY (sY (sN (sY (sN (sY sE))))))))))))))))) (fun r h => h) (fun A w M => M.storeAt (cells := [(vS x106)]) (cells' := [(vS x100)]) (new := [(vS x100)]) (k := 0) 14 rfl hpre110 Tryz.el9.sized rfl rfl rfl (cel_cons rfl cel_nil) (by first | omega | (simp only [List.length_set, List.length_append, List.length_cons, List.length_nil]; omega)) (Nat.le_of_ble_eq_true rfl) rfl rfl) ?_
  refine tP (vQ vv5 i 1) rfl (fun w => (sX i Tryz.un91 Tryz.el3 rfl rfl hb112)) ?_
  refine TW.act (c' := own 3 1 vv5 n.vals.length (pre115 ++ ([(vI x103)] ++ post116))) 15 rfl rfl (by decide) rfl (sY (sY (sY (sY (sY (sY (sY (sY (sY (sY (sY (sY (sY (sN (sY (sN (sY sE))))))))))))))))) (fun r h => h) (fun A w M => M.storeAt (cells := [(vI x114)]) (cells' := [(vI x103)]) (new := [(vI x103)]) (k := 0) 16 rfl hpre118 Tryz.el3.sized rfl rfl rfl (cel_cons rfl cel_nil) (by first | omega | (simp only [List.length_set, List.length_append, List.length_cons, List.length_nil]; omega)) (Nat.le_of_ble_eq_true rfl) rfl rfl) ?_
  refine TW.done (fun w120 M => ?_)
  refine W.seq' ?_
  have hsh121 := SlAt.shp (own_slAt (M.chunk 2 rfl).inv)
  have hsh121c := hsh121
  obtain ⟨_, _, hsh121l, hsh121m⟩ := hsh121c
  have hsh122 := SlAt.shp (own_slAt (M.chunk 1 rfl).inv)
  have hsh122c := hsh122
  obtain ⟨_, _, hsh122l, hsh122m⟩ := hsh122c
  refine W.drawn M [0, 1, 2, 3, 4, 5, 6, 7, 8, 9, 10, 11, 12, 13, 14, 15, 16, 17, 18, 19, 20, 21] [15, 17, 19, 21] [] _ _ (sY (sY (sY (sN (sN (sY (sY (sY (sY (sY (sY (sY (sY (sY (sY (sY (sY sE))))))))))))))))) (fun _ h => h) Tryz.mixed (by kernel_rfl) ?_
  refine tP v73 rfl (fun w => (Step.move rfl)) ?_
  refine tP (vI ↑at_) rfl (fun w => (Step.move rfl)) ?_
  refine tP (vTake at_ v73) rfl (fun w => (Step.sliceToP (h := at_) Tryz.un23 Tryz.el9.sized rfl rfl (by omega) hsh121 (by obtain ⟨_, _, _, _⟩ := hsh121; omega))) ?_
  refine tP v85 rfl (fun w => (Step.move rfl)) ?_
  refine tP (vI ↑at_) rfl (fun w => (Step.move rfl)) ?_
  refine tP (vTake at_ v85) rfl (fun w => (Step.sliceToP (h := at_) Tryz.un91 Tryz.el3.sized rfl rfl (by omega) hsh122 (by obtain ⟨_, _, _, _⟩ := hsh122; omega))) ?_
  refine tP v73 rfl (fun w => (Step.move rfl)) ?_
  refine tP (vI ↑at_) rfl (fun w => (Step.move rfl)) ?_
  refine tP (vI (↑(at_ + 1))) rfl (fun w => (Step.cast (congrArg (Value.int .i64) (show (↑at_ + 1 : Int) = ↑(at_ + 1) by omega)) (Step.add rfl rfl (wrap_i64 (by omega))))) ?_
  refine tP (vSlice 1 (at_ + 1) ((na_.keys ++ ((n.keys.drop i).take 1 ++ nb_.keys)).length) (vCap v73) v73) rfl (fun w => (Step.sliceFromP (l := at_ + 1) Tryz.un23 Tryz.el9.sized rfl rfl (by omega) hsh121 (by omega))) ?_
  refine tP v85 rfl (fun w => (Step.move rfl)) ?_
  refine tP (vI ↑at_) rfl (fun w => (Step.move rfl)) ?_
  refine tP (vI (↑(at_ + 1))) rfl (fun w => (Step.cast (congrArg (Value.int .i64) (show (↑at_ + 1 : Int) = ↑(at_ + 1) by omega)) (Step.add rfl rfl (wrap_i64 (by omega))))) ?_
  refine tP (vSlice 1 (at_ + 1) ((na_.vals ++ ((n.vals.drop i).take 1 ++ nb_.vals)).length) (vCap v85) v85) rfl (fun w => (Step.sliceFromP (l := at_ + 1) Tryz.un91 Tryz.el3.sized rfl rfl (by omega) hsh122 (by omega))) ?_
  refine tP (Value.pointer (some ⟨b62, 1, none⟩)) rfl (fun w => sP) ?_
  refine TW.store (v := (vTake at_ v73)) (cs := [(vTake at_ v73)]) (c' := #[(vB na_.leaf), (vTake at_ v73), dv45, vv46]) 4 rfl rfl (by decide) rfl Tryz.el23.sized rfl rfl (IsSl.list (Shp.isSl (Shp.take hsh121 (k := at_) (by obtain ⟨_, _, _, _⟩ := hsh121; omega)))) rfl (Nat.le_of_ble_eq_true rfl) (cel_cons (IsSl.cel (Shp.isSl (Shp.take hsh121 (k := at_) (by obtain ⟨_, _, _, _⟩ := hsh121; omega)))) cel_nil) rfl rfl (sY (sY (sY (sN (sN (sY (sY (sY (sY (sY (sY (sY (sY (sY (sY (sY (sY sE))))))))))))))))) (fun r h => h) ?_
  refine tP (Value.pointer (some ⟨b62, 3, none⟩)) rfl (fun w => sP) ?_
  refine TW.store (v := (vTake at_ v85)) (cs := [(vTake at_ v85)]) (c' := #[(vB na_.leaf), (vTake at_ v73), dv45, (vTake at_ v85)]) 4 rfl rfl (by decide) rfl Tryz.el91.sized rfl rfl (IsSl.list (Shp.isSl (Shp.take hsh122 (k := at_) (by obtain ⟨_, _, _, _⟩ := hsh122; omega)))) rfl (Nat.le_of_ble_eq_true rfl) (cel_cons (IsSl.cel (Shp.isSl (Shp.take hsh122 (k := at_) (by obtain ⟨_, _, _, _⟩ := hsh122; omega)))) cel_nil) rfl rfl (sY (sY (sY (sN (sN (sY (sY (sY (sY (sY (sY (sY (sY (sY (sY (sY (sY sE))))))))))))))))) (fun r h => h) ?_
  refine tP (Value.pointer (some ⟨b63, 1, none⟩)) rfl (fun w => sP) ?_
  refine TW.store (v := (vSlice 1 (at_ + 1) ((na_.keys ++ ((n.keys.drop i).take 1 ++ nb_.keys)).length) (vCap v73) v73)) (cs := [(vSlice 1 (at_ + 1) ((na_.keys ++ ((n.keys.drop i).take 1 ++ nb_.keys)).length) (vCap v73) v73)]) (c' := #[(vB nb_.leaf), (vSlice 1 (at_ + 1) ((na_.keys ++ ((n.keys.drop i).take 1 ++ nb_.keys)).length) (vCap v73) v73), dv54, vv55]) 3 rfl rfl (by decide) rfl Tryz.el23.sized rfl rfl (IsSl.list (vSlice_sl (Shp.isSl hsh121))) rfl (Nat.le_of_ble_eq_true rfl) (cel_cons (IsSl.cel (vSlice_sl (Shp.isSl hsh121))) cel_nil) rfl rfl (sY (sY (sY (sN (sN (sY (sY (sY (sY (sY (sY (sY (sY (sY (sY (sY (sY sE))))))))))))))))) (fun r h => h) ?_
  refine tP (Value.pointer (some ⟨b63, 3, none⟩)) rfl (fun w => sP) ?_
  refine TW.store (v := (vSlice 1 (at_ + 1) ((na_.vals ++ ((n.vals.drop i).take 1 ++ nb_.vals)).length) (vCap v85) v85)) (cs := [(vSlice 1 (at_ + 1) ((na_.vals ++ ((n.vals.drop i).take 1 ++ nb_.vals)).length) (vCap v85) v85)]) (c' := #[(vB nb_.leaf), (vSlice 1 (at_ + 1) ((na_.keys ++ ((n.keys.drop i).take 1 ++ nb_.keys)).length) (vCap v73) v73), dv54, (vSlice 1 (at_ + 1) ((na_.vals ++ ((n.vals.drop i).take 1 ++ nb_.vals)).length) (vCap v85) v85)]) 3 rfl rfl (by decide) rfl Tryz.el91.sized rfl rfl (IsSl.list (vSlice_sl (Shp.isSl hsh122))) rfl (Nat.le_of_ble_eq_true rfl) (cel_cons (IsSl.cel (vSlice_sl (Shp.isSl hsh122))) cel_nil) rfl rfl (sY (sY (sY (sN (sN (sY (sY (sY (sY (sY (sY (sY (sY (sY (sY (sY (sY sE))))))))))))))))) (fun r h => h) ?_
  refine TW.done (fun w131 M => ?_)
  refine W.seq' (W.seq' ?_)
  replace M := M.sel (L' := [oH v91 (na_.kids ++ nb_.kids), oI v85 (na_.vals ++ ((n.vals.drop i).take 1 ++ nb_.vals)), oS v73 (na_.keys ++ ((n.keys.drop i).take 1 ++ nb_.keys)), bk b63 #[(vB nb_.leaf), (vSlice 1 (at_ + 1) ((na_.keys ++ ((n.keys.drop i).take 1 ++ nb_.keys)).length) (vCap v73) v73), dv54, (vSlice 1 (at_ + 1) ((na_.vals ++ ((n.vals.drop i).take 1 ++ nb_.vals)).length) (vCap v85) v85)] 93, bk b62 #[(vB na_.leaf), (vTake at_ v73), dv45, (vTake at_ v85)] 93, oH dv54 nb_.kids, oH dv45 na_.kids, bk b13 #[(vB n.leaf), kv3, dv4, vv5] 93, arenaC 107 112 S ab l, own 9 1 kv3 n.keys.length (pre107 ++ ([(vS x100)] ++ post108)), oH dv4 n.kids, own 3 1 vv5 n.vals.length (pre115 ++ ([(vI x103)] ++ post116)), bk b1 #[(vI h.at_), (vI h.turn)] 68]) [0, 1, 2, 3, 4, 6, 9, 11, 12, 13, 14, 15, 16] rfl (by decide)
  refine W.region rfl (wP (vP b62) (wS (vB na_.leaf) rfl (Step.load1 Tryz.sc4 rfl ((M.cell 4 rfl 0).trans rfl)) (wP (vB !na_.leaf) (WL.nil ?_))))
  refine W.cond (t := !na_.leaf) rfl (fun h132 => ?_) (fun h132 => ?_)
  ·
   have hlf_ : na_.leaf = false := by simpa using h132
   have hak_ := hP.ak hlf_
   have hbk_ := hP.bk hlf_
   have hsh133 := SlAt.shp (own_slAt (M.chunk 0 rfl).inv)
   have hsh133c := hsh133
   obtain ⟨_, _, hsh133l, hsh133m⟩ := hsh133c
   refine W.drawn M [0, 1, 2, 3, 4, 5, 6, 7, 8, 9, 10, 11] [9, 11] [] _ _ (sY (sY (sY (sN (sN (sY (sY (sY (sY (sY (sY (sY (sY sE))))))))))))) (fun _ h => h) Tryz.mixed (by kernel_rfl) ?_
   refine tP v91 rfl (fun w => (Step.move rfl)) ?_
   refine tP (vI ↑at_) rfl (fun w => (Step.move rfl)) ?_
   refine tP (vI (↑(at_ + 1))) rfl (fun w => (Step.cast (congrArg (Value.int .i64) (show (↑at_ + 1 : Int) = ↑(at_ + 1) by omega)) (Step.add rfl rfl (wrap_i64 (by omega))))) ?_
   refine tP (vTake (at_ + 1) v91) rfl (fun w => (Step.sliceToP (h := at_ + 1) Tryz.un90 Tryz.el68.sized rfl rfl (by omega) hsh133 (by obtain ⟨_, _, _, _⟩ := hsh133; omega))) ?_
   refine tP v91 rfl (fun w => (Step.move rfl)) ?_
   refine tP (vI ↑at_) rfl (fun w => (Step.move rfl)) ?_
   refine tP (vI (↑(at_ + 1))) rfl (fun w => (Step.cast (congrArg (Value.int .i64) (show (↑at_ + 1 : Int) = ↑(at_ + 1) by omega)) (Step.add rfl rfl (wrap_i64 (by omega))))) ?_
   refine tP (vSlice 2 (at_ + 1) ((na_.kids ++ nb_.kids).length) (vCap v91) v91) rfl (fun w => (Step.sliceFromP (l := at_ + 1) Tryz.un90 Tryz.el68.sized rfl rfl (by omega) hsh133 (by omega))) ?_
   refine tP (Value.pointer (some ⟨b62, 2, none⟩)) rfl (fun w => sP) ?_
   refine TW.store (v := (vTake (at_ + 1) v91)) (cs := [(vTake (at_ + 1) v91)]) (c' := #[(vB na_.leaf), (vTake at_ v73), (vTake (at_ + 1) v91), (vTake at_ v85)]) 4 rfl rfl (by decide) rfl Tryz.el90.sized rfl rfl (IsSl.list (Shp.isSl (Shp.take hsh133 (k := at_ + 1) (by obtain ⟨_, _, _, _⟩ := hsh133; omega)))) rfl (Nat.le_of_ble_eq_true rfl) (cel_cons (IsSl.cel (Shp.isSl (Shp.take hsh133 (k := at_ + 1) (by obtain ⟨_, _, _, _⟩ := hsh133; omega)))) cel_nil) rfl rfl (sY (sY (sY (sN (sN (sY (sY (sY (sY (sY (sY (sY (sY sE))))))))))))) (fun r h => h) ?_
   refine tP (Value.pointer (some ⟨b63, 2, none⟩)) rfl (fun w => sP) ?_
   refine TW.store (v := (vSlice 2 (at_ + 1) ((na_.kids ++ nb_.kids).length) (vCap v91) v91)) (cs := [(vSlice 2 (at_ + 1) ((na_.kids ++ nb_.kids).length) (vCap v91) v91)]) (c' := #[(vB nb_.leaf), (vSlice 1 (at_ + 1) ((na_.keys ++ ((n.keys.drop i).take 1 ++ nb_.keys)).length) (vCap v73) v73), (vSlice 2 (at_ + 1) ((na_.kids ++ nb_.kids).length) (vCap v91) v91), (vSlice 1 (at_ + 1) ((na_.vals ++ ((n.vals.drop i).take 1 ++ nb_.vals)).length) (vCap v85) v85)]) 3 rfl rfl (by decide) rfl Tryz.el90.sized rfl rfl (IsSl.list (vSlice_sl (Shp.isSl hsh133))) rfl (Nat.le_of_ble_eq_true rfl) (cel_cons (IsSl.cel (vSlice_sl (Shp.isSl hsh133))) cel_nil) rfl rfl (sY (sY (sY (sN (sN (sY (sY (sY (sY (sY (sY (sY (sY sE))))))))))))) (fun r h => h) ?_
   refine TW.done (fun w138 M => ?_)
   refine W.seq' ?_
   replace M := M.loseI 6
   replace M := M.loseI 5
   refine W.drawn M [0, 1, 2, 3, 4, 5, 6, 7] [7] [] _ _ (sY (sY (sY (sY (sY (sY (sN (sY (sY (sY (sY sE))))))))))) (fun _ h => h) Tryz.mixed (by kernel_rfl) ?_
   refine tP (vP tb) rfl (fun w => (Step.move rfl)) ?_
   refine tP (Value.pointer (some ⟨b13, 2, none⟩)) rfl (fun w => sP) ?_
   refine tR dv4 rfl (fun A w M => (Step.load1 Tryz.sc90 rfl ((M.cell 6 rfl 2).trans rfl))) ?_
   refine tP (vI ↑i) rfl (fun w => (Step.move rfl)) ?_
   refine tP (vQ dv4 i 2) rfl (fun w => (sX i Tryz.un90 Tryz.el68 rfl rfl hb16)) ?_
   refine tR (Value.agg #[(vI x18.at_), (vI x18.turn)]) rfl (fun A w M => (Step.loadEN (k := 0) (cs' := [(vI x18.at_), (vI x18.turn)]) Tryz.ag68 (flat_ec (own_slAt (M.chunk 8 rfl).inv) hx18 handleE_len) (by decide) rfl rfl rfl)) ?_
   refine tR (Value.agg #[(vB na_.leaf), (vTake at_ v73), (vTake (at_ + 1) v91), (vTake at_ v85)]) rfl (fun A w M => (Step.loadN Tryz.ag93 rfl (M.blk 5 rfl) (Nat.le_of_ble_eq_true rfl) rfl)) ?_
   let Q : List Chunk := [oH v91 (na_.kids ++ nb_.kids), oI v85 (na_.vals ++ ((n.vals.drop i).take 1 ++ nb_.vals)), oS v73 (na_.keys ++ ((n.keys.drop i).take 1 ++ nb_.keys)), bk b63 #[(vB nb_.leaf), (vSlice 1 (at_ + 1) ((na_.keys ++ ((n.keys.drop i).take 1 ++ nb_.keys)).length) (vCap v73) v73), (vSlice 2 (at_ + 1) ((na_.kids ++ nb_.kids).length) (vCap v91) v91), (vSlice 1 (at_ + 1) ((na_.vals ++ ((n.vals.drop i).take 1 ++ nb_.vals)).length) (vCap v85) v85)] 93, bk b62 #[(vB na_.leaf), (vTake at_ v73), (vTake (at_ + 1) v91), (vTake at_ v85)] 93, bk b13 #[(vB n.leaf), kv3, dv4, vv5] 93, own 9 1 kv3 n.keys.length (pre107 ++ ([(vS x100)] ++ post108)), oH dv4 n.kids, own 3 1 vv5 n.vals.length (pre115 ++ ([(vI x103)] ++ post116)), bk b1 #[(vI h.at_), (vI h.turn)] 68]
   refine TW.callX (ι := (Nat → Prop)) (fun jx v_ => v_ = undef) (fun jx => arenaC 107 112 jx ab ((rput l x18 (⟨na_.leaf, (na_.keys ++ ((n.keys.drop i).take 1 ++ nb_.keys)).take at_, (na_.kids ++ nb_.kids).take (at_ + 1), (na_.vals ++ ((n.vals.drop i).take 1 ++ nb_.vals)).take at_⟩ : Nd)).1) :: Q) (fun jx => [bF tb #[(vP ab), (vI r.at_), (vI r.turn), (vB fu), (vI ln)] 70]) rfl (by decide) rfl (fun jx => (sN (sY (sY (sY (sY (sY (sY (sY (sY (sY (sY sE)))))))))))) (fun jx r h => h) (fun A w M => have fq := M.frm [arenaC 107 112 S ab l] (fl A :: Q) [7, 0, 1, 2, 3, 4, 5, 6, 8, 9, 10, 11] rfl; Rets.mono (tr_put tb ab r fu ln l S x18 (vTake at_ v73) (vTake (at_ + 1) v91) (vTake at_ v85) (⟨na_.leaf, (na_.keys ++ ((n.keys.drop i).take 1 ++ nb_.keys)).take at_, (na_.kids ++ nb_.kids).take (at_ + 1), (na_.vals ++ ((n.vals.drop i).take 1 ++ nb_.vals)).take at_⟩ : Nd) (by assumption) (by simp [insL] <;> omega) (by simp [insL] <;> omega) (by simp [insL] <;> omega) (M.eF fq ⟨(M.rF fq 0 rfl), ((((M.cF fq 3 rfl).imp fun _ h => own_slAt h)).imp fun _ h => slat_take strE_len h (by omega)), ((((M.cF fq 1 rfl).imp fun _ h => own_slAt h)).imp fun _ h => slat_take handleE_len h (by omega)), ((((M.cF fq 2 rfl).imp fun _ h => own_slAt h)).imp fun _ h => slat_take intE_len h (by omega)), trivial⟩)) (fun v_ w_ ⟨S141, e_, m⟩ => ⟨S141, e_, (M.lF fq m).sel [1, 0, 2, 3, 4, 5, 6, 7, 8, 9, 10, 11] rfl (by decide), fun b hb => M.kF fq m b hb⟩)) (fun w => CallsF.func Tryz.en68 rfl) (fun S141 v hp hin => ?_)
   replace hp := hp.symm; subst hp
   obtain ⟨_, _, hin⟩ := hin
   clear hin
   refine TW.done (fun w142 M => ?_)
   refine W.seq' ?_
   replace M := M.loseI 5
   obtain ⟨l1_, hl1_⟩ : ∃ q, ((rput l x18 (⟨na_.leaf, (na_.keys ++ ((n.keys.drop i).take 1 ++ nb_.keys)).take at_, (na_.kids ++ nb_.kids).take (at_ + 1), (na_.vals ++ ((n.vals.drop i).take 1 ++ nb_.vals)).take at_⟩ : Nd)).1) = q := ⟨_, rfl⟩
   have hAl1_ : SmallA l1_ := by rw [← hl1_]; first | exact SmallA.put (by assumption) (by first | omega | (simp [insL] <;> omega)) (by first | omega | (simp [insL] <;> omega)) (by first | omega | (simp [insL] <;> omega)) | exact SmallA.free (by assumption)
   replace M := M.rechunk 0 (c' := arenaC 107 112 S141 ab l1_) rfl (by rw [hl1_])
   refine W.drawn M [0, 1, 2, 3, 4, 5, 6, 7, 8] [8] [] _ _ (sN (sY (sY (sY (sY (sY (sY (sY (sY (sY sE)))))))))) (fun _ h => h) Tryz.mixed (by kernel_rfl) ?_
   refine tP (vP tb) rfl (fun w => (Step.move rfl)) ?_
   refine tP (Value.pointer (some ⟨b13, 2, none⟩)) rfl (fun w => sP) ?_
   refine tR dv4 rfl (fun A w M => (Step.load1 Tryz.sc90 rfl ((M.cell 5 rfl 2).trans rfl))) ?_
   refine tP (vI ↑i) rfl (fun w => (Step.move rfl)) ?_
   refine tP (vI (↑(i + 1))) rfl (fun w => (Step.cast (congrArg (Value.int .i64) (show (↑i + 1 : Int) = ↑(i + 1) by omega)) (Step.add rfl rfl (wrap_i64 (by omega))))) ?_
   refine tP (vQ dv4 (i + 1) 2) rfl (fun w => (sX (i + 1) Tryz.un90 Tryz.el68 rfl rfl hb16)) ?_
   refine tR (Value.agg #[(vI x22.at_), (vI x22.turn)]) rfl (fun A w M => (Step.loadEN (k := 0) (cs' := [(vI x22.at_), (vI x22.turn)]) Tryz.ag68 (flat_ec (own_slAt (M.chunk 7 rfl).inv) hx22 handleE_len) (by decide) rfl rfl rfl)) ?_
   refine tR (Value.agg #[(vB nb_.leaf), (vSlice 1 (at_ + 1) ((na_.keys ++ ((n.keys.drop i).take 1 ++ nb_.keys)).length) (vCap v73) v73), (vSlice 2 (at_ + 1) ((na_.kids ++ nb_.kids).length) (vCap v91) v91), (vSlice 1 (at_ + 1) ((na_.vals ++ ((n.vals.drop i).take 1 ++ nb_.vals)).length) (vCap v85) v85)]) rfl (fun A w M => (Step.loadN Tryz.ag93 rfl (M.blk 4 rfl) (Nat.le_of_ble_eq_true rfl) rfl)) ?_
   let Q : List Chunk := [oH v91 (na_.kids ++ nb_.kids), oI v85 (na_.vals ++ ((n.vals.drop i).take 1 ++ nb_.vals)), oS v73 (na_.keys ++ ((n.keys.drop i).take 1 ++ nb_.keys)), bk b63 #[(vB nb_.leaf), (vSlice 1 (at_ + 1) ((na_.keys ++ ((n.keys.drop i).take 1 ++ nb_.keys)).length) (vCap v73) v73), (vSlice 2 (at_ + 1) ((na_.kids ++ nb_.kids).length) (vCap v91) v91), (vSlice 1 (at_ + 1) ((na_.vals ++ ((n.vals.drop i).take 1 ++ nb_.vals)).length) (vCap v85) v85)] 93, bk b13 #[(vB n.leaf), kv3, dv4, vv5] 93, own 9 1 kv3 n.keys.length (pre107 ++ ([(vS x100)] ++ post108)), oH dv4 n.kids, own 3 1 vv5 n.vals.length (pre115 ++ ([(vI x103)] ++ post116)), bk b1 #[(vI h.at_), (vI h.turn)] 68]
   refine TW.callX (ι := (Nat → Prop)) (fun jx v_ => v_ = undef) (fun jx => arenaC 107 112 jx ab ((rput l1_ x22 (⟨nb_.leaf, ((na_.keys ++ ((n.keys.drop i).take 1 ++ nb_.keys)).drop (at_ + 1)).take (((na_.keys ++ ((n.keys.drop i).take 1 ++ nb_.keys)).length) - (at_ + 1)), ((na_.kids ++ nb_.kids).drop (at_ + 1)).take (((na_.kids ++ nb_.kids).length) - (at_ + 1)), ((na_.vals ++ ((n.vals.drop i).take 1 ++ nb_.vals)).drop (at_ + 1)).take (((na_.vals ++ ((n.vals.drop i).take 1 ++ nb_.vals)).length) - (at_ + 1))⟩ : Nd)).1) :: Q) (fun jx => [bF tb #[(vP ab), (vI r.at_), (vI r.turn), (vB fu), (vI ln)] 70]) rfl (by decide) rfl (fun jx => (sN (sY (sY (sY (sY (sY (sY (sY (sY (sY sE))))))))))) (fun jx r h => h) (fun A w M => have fq := M.frm [arenaC 107 112 S141 ab l1_] (fl A :: Q) [1, 0, 2, 3, 4, 5, 6, 7, 8, 9, 10] rfl; Rets.mono (tr_put tb ab r fu ln l1_ S141 x22 (vSlice 1 (at_ + 1) ((na_.keys ++ ((n.keys.drop i).take 1 ++ nb_.keys)).length) (vCap v73) v73) (vSlice 2 (at_ + 1) ((na_.kids ++ nb_.kids).length) (vCap v91) v91) (vSlice 1 (at_ + 1) ((na_.vals ++ ((n.vals.drop i).take 1 ++ nb_.vals)).length) (vCap v85) v85) (⟨nb_.leaf, ((na_.keys ++ ((n.keys.drop i).take 1 ++ nb_.keys)).drop (at_ + 1)).take (((na_.keys ++ ((n.keys.drop i).take 1 ++ nb_.keys)).length) - (at_ + 1)), ((na_.kids ++ nb_.kids).drop (at_ + 1)).take (((na_.kids ++ nb_.kids).length) - (at_ + 1)), ((na_.vals ++ ((n.vals.drop i).take 1 ++ nb_.vals)).drop (at_ + 1)).take (((na_.vals ++ ((n.vals.drop i).take 1 ++ nb_.vals)).length) - (at_ + 1))⟩ : Nd) (by assumption) (by simp [insL] <;> omega) (by simp [insL] <;> omega) (by simp [insL] <;> omega) (M.eF fq ⟨(M.rF fq 0 rfl), ((((M.cF fq 3 rfl).imp fun _ h => own_slAt h)).imp fun _ h => slat_sliceF strE_len (l := at_ + 1) (h := (na_.keys ++ ((n.keys.drop i).take 1 ++ nb_.keys)).length) h (by omega) (by omega) (Nat.le_trans (by omega) (SlAt.cap h).1) (Nat.le_refl _)), ((((M.cF fq 1 rfl).imp fun _ h => own_slAt h)).imp fun _ h => slat_sliceF handleE_len (l := at_ + 1) (h := (na_.kids ++ nb_.kids).length) h (by omega) (by omega) (Nat.le_trans (by omega) (SlAt.cap h).1) (Nat.le_refl _)), ((((M.cF fq 2 rfl).imp fun _ h => own_slAt h)).imp fun _ h => slat_sliceF intE_len (l := at_ + 1) (h := (na_.vals ++ ((n.vals.drop i).take 1 ++ nb_.vals)).length) h (by omega) (by omega) (Nat.le_trans (by omega) (SlAt.cap h).1) (Nat.le_refl _)), trivial⟩)) (fun v_ w_ ⟨S145, e_, m⟩ => ⟨S145, e_, (M.lF fq m).sel [1, 0, 2, 3, 4, 5, 6, 7, 8, 9, 10] rfl (by decide), fun b hb => M.kF fq m b hb⟩)) (fun w => CallsF.func Tryz.en68 rfl) (fun S145 v hp hin => ?_)
   replace hp := hp.symm; subst hp
   obtain ⟨_, _, hin⟩ := hin
   clear hin
   refine TW.done (fun w146 M => ?_)
   replace M := M.loseI 4
   replace M := M.loseI 3
   replace M := M.loseI 2
   replace M := M.loseI 1
   obtain ⟨l2_, hl2_⟩ : ∃ q, ((rput l1_ x22 (⟨nb_.leaf, ((na_.keys ++ ((n.keys.drop i).take 1 ++ nb_.keys)).drop (at_ + 1)).take (((na_.keys ++ ((n.keys.drop i).take 1 ++ nb_.keys)).length) - (at_ + 1)), ((na_.kids ++ nb_.kids).drop (at_ + 1)).take (((na_.kids ++ nb_.kids).length) - (at_ + 1)), ((na_.vals ++ ((n.vals.drop i).take 1 ++ nb_.vals)).drop (at_ + 1)).take (((na_.vals ++ ((n.vals.drop i).take 1 ++ nb_.vals)).length) - (at_ + 1))⟩ : Nd)).1) = q := ⟨_, rfl⟩
   have hAl2_ : SmallA l2_ := by rw [← hl2_]; first | exact SmallA.put (by assumption) (by first | omega | (simp [insL] <;> omega)) (by first | omega | (simp [insL] <;> omega)) (by first | omega | (simp [insL] <;> omega)) | exact SmallA.free (by assumption)
   replace M := M.rechunk 0 (c' := arenaC 107 112 S145 ab l2_) rfl (by rw [hl2_])
   refine W.region rfl (wM (vP tb) (wS (Value.agg #[(vI h.at_), (vI h.turn)]) rfl (Step.loadN Tryz.ag68 rfl (M.blk 5 rfl) (Nat.le_of_ble_eq_true rfl) rfl) (wS (Value.agg #[(vB n.leaf), kv3, dv4, vv5]) rfl (Step.loadN Tryz.ag93 rfl (M.blk 1 rfl) (Nat.le_of_ble_eq_true rfl) rfl) ?_)))
   replace M := M.rechunk 2 (c' := own 9 1 kv3 (n.keys.length) ((n.keys.set i x100).flatMap strE)) rfl (by rw [← hback111]; rfl)
   replace M := M.rechunk 2 (c' := oS kv3 (n.keys.set i x100)) rfl (by show _ = own 9 1 kv3 ((n.keys.set i x100).length) ((n.keys.set i x100).flatMap strE); rw [List.length_set])
   replace M := M.rechunk 4 (c' := own 3 1 vv5 (n.vals.length) ((n.vals.set i x103).flatMap intE)) rfl (by rw [← hback119]; rfl)
   replace M := M.rechunk 4 (c' := oI vv5 (n.vals.set i x103)) rfl (by show _ = own 3 1 vv5 ((n.vals.set i x103).length) ((n.vals.set i x103).flatMap intE); rw [List.length_set])
   have fq := M.frm [arenaC 107 112 S145 ab l2_] [bk b13 #[(vB n.leaf), kv3, dv4, vv5] 93, oS kv3 (n.keys.set i x100), oH dv4 n.kids, oI vv5 (n.vals.set i x103), bk b1 #[(vI h.at_), (vI h.turn)] 68] [0, 1, 2, 3, 4, 5] rfl
   refine WL.callX rfl (tr_put tb ab r fu ln l2_ S145 h kv3 dv4 vv5 (⟨n.leaf, n.keys.set i x100, n.kids, n.vals.set i x103⟩ : Nd) (by assumption) (by simp [insL] <;> omega) (by simp [insL] <;> omega) (by simp [insL] <;> omega) (M.eF fq ⟨(M.rF fq 0 rfl), ((M.cF fq 1 rfl).imp fun _ h => own_slAt h), ((M.cF fq 2 rfl).imp fun _ h => own_slAt h), ((M.cF fq 3 rfl).imp fun _ h => own_slAt h), trivial⟩)) (CallsF.func Tryz.en68 rfl) ?_
   rintro _ w148 ⟨S147, rfl, m⟩
   replace M := M.lF fq m
   clear m
   refine WL.nil ?_
   refine ⟨.inr rfl, undef, ?_, ?_⟩
   · exact ⟨rfl, Res.none⟩
   have e149 : (turnF l h i lw) = (rput l2_ h (⟨n.leaf, n.keys.set i x100, n.kids, n.vals.set i x103⟩ : Nd)).1 := by
    rw [turnF_eq (at_ := at_) hn hgd1_ hgd2_ hna_ hnb_ hat_]
    subst hl2_
    subst hl1_
    simp only [drop_rest]
    simp [hlf_, hlfb_, drop_rest, List.getD, hx18, hx22, hx100, hx103, hx106, hx114, h132]
   replace M := M.rechunk 0 (c' := arenaC 107 112 S147 ab (turnF l h i lw)) rfl (congrArg (fun z => arenaC 107 112 S147 ab z) e149.symm)
   refine ⟨S147, ?_, M.close [0] rfl (by decide) trivial⟩
   rfl
  ·
   have hlf_ : na_.leaf = true := by simpa using h132
   refine W.skip (W.seq' ?_)
   replace M := M.loseI 0
   refine W.drawn M [0, 1, 2, 3, 4, 5, 6, 7] [7] [] _ _ (sY (sY (sY (sY (sY (sY (sY (sN (sY (sY (sY (sY sE)))))))))))) (fun _ h => h) Tryz.mixed (by kernel_rfl) ?_
   refine tP (vP tb) rfl (fun w => (Step.move rfl)) ?_
   refine tP (Value.pointer (some ⟨b13, 2, none⟩)) rfl (fun w => sP) ?_
   refine tR dv4 rfl (fun A w M => (Step.load1 Tryz.sc90 rfl ((M.cell 7 rfl 2).trans rfl))) ?_
   refine tP (vI ↑i) rfl (fun w => (Step.move rfl)) ?_
   refine tP (vQ dv4 i 2) rfl (fun w => (sX i Tryz.un90 Tryz.el68 rfl rfl hb16)) ?_
   refine tR (Value.agg #[(vI x18.at_), (vI x18.turn)]) rfl (fun A w M => (Step.loadEN (k := 0) (cs' := [(vI x18.at_), (vI x18.turn)]) Tryz.ag68 (flat_ec (own_slAt (M.chunk 9 rfl).inv) hx18 handleE_len) (by decide) rfl rfl rfl)) ?_
   refine tR (Value.agg #[(vB na_.leaf), (vTake at_ v73), dv45, (vTake at_ v85)]) rfl (fun A w M => (Step.loadN Tryz.ag93 rfl (M.blk 4 rfl) (Nat.le_of_ble_eq_true rfl) rfl)) ?_
   let Q : List Chunk := [oI v85 (na_.vals ++ ((n.vals.drop i).take 1 ++ nb_.vals)), oS v73 (na_.keys ++ ((n.keys.drop i).take 1 ++ nb_.keys)), bk b63 #[(vB nb_.leaf), (vSlice 1 (at_ + 1) ((na_.keys ++ ((n.keys.drop i).take 1 ++ nb_.keys)).length) (vCap v73) v73), dv54, (vSlice 1 (at_ + 1) ((na_.vals ++ ((n.vals.drop i).take 1 ++ nb_.vals)).length) (vCap v85) v85)] 93, bk b62 #[(vB na_.leaf), (vTake at_ v73), dv45, (vTake at_ v85)] 93, oH dv54 nb_.kids, oH dv45 na_.kids, bk b13 #[(vB n.leaf), kv3, dv4, vv5] 93, own 9 1 kv3 n.keys.length (pre107 ++ ([(vS x100)] ++ post108)), oH dv4 n.kids, own 3 1 vv5 n.vals.length (pre115 ++ ([(vI x103)] ++ post116)), bk b1 #[(vI h.at_), (vI h.turn)] 68]
   refine TW.callX (ι := (Nat → Prop)) (fun jx v_ => v_ = undef) (fun jx => arenaC 107 112 jx ab ((rput l x18 (⟨na_.leaf, (na_.keys ++ ((n.keys.drop i).take 1 ++ nb_.keys)).take at_, na_.kids, (na_.vals ++ ((n.vals.drop i).take 1 ++ nb_.vals)).take at_⟩ : Nd)).1) :: Q) (fun jx => [bF tb #[(vP ab), (vI r.at_), (vI r.turn), (vB fu), (vI ln)] 70]) rfl (by decide) rfl (fun jx => (sN (sY (sY (sY (sY (sY (sY (sY (sY (sY (sY (sY sE))))))))))))) (fun jx r h => h) (fun A w M => have fq := M.frm [arenaC 107 112 S ab l] (fl A :: Q) [8, 0, 1, 2, 3, 4, 5, 6, 7, 9, 10, 11, 12] rfl; Rets.mono (tr_put tb ab r fu ln l S x18 (vTake at_ v73) dv45 (vTake at_ v85) (⟨na_.leaf, (na_.keys ++ ((n.keys.drop i).take 1 ++ nb_.keys)).take at_, na_.kids, (na_.vals ++ ((n.vals.drop i).take 1 ++ nb_.vals)).take at_⟩ : Nd) (by assumption) (by simp [insL] <;> omega) (by simp [insL] <;> omega) (by simp [insL] <;> omega) (M.eF fq ⟨(M.rF fq 0 rfl), ((((M.cF fq 2 rfl).imp fun _ h => own_slAt h)).imp fun _ h => slat_take strE_len h (by omega)), ((M.cF fq 6 rfl).imp fun _ h => own_slAt h), ((((M.cF fq 1 rfl).imp fun _ h => own_slAt h)).imp fun _ h => slat_take intE_len h (by omega)), trivial⟩)) (fun v_ w_ ⟨S152, e_, m⟩ => ⟨S152, e_, (M.lF fq m).sel [1, 0, 2, 3, 4, 5, 6, 7, 8, 9, 10, 11, 12] rfl (by decide), fun b hb => M.kF fq m b hb⟩)) (fun w => CallsF.func Tryz.en68 rfl) (fun S152 v hp hin => ?_)
   replace hp := hp.symm; subst hp
   obtain ⟨_, _, hin⟩ := hin
   clear hin
   refine TW.done (fun w153 M => ?_)
   refine W.seq' ?_
   replace M := M.loseI 6
   replace M := M.loseI 4
   obtain ⟨l1_, hl1_⟩ : ∃ q, ((rput l x18 (⟨na_.leaf, (na_.keys ++ ((n.keys.drop i).take 1 ++ nb_.keys)).take at_, na_.kids, (na_.vals ++ ((n.vals.drop i).take 1 ++ nb_.vals)).take at_⟩ : Nd)).1) = q := ⟨_, rfl⟩
   have hAl1_ : SmallA l1_ := by rw [← hl1_]; first | exact SmallA.put (by assumption) (by first | omega | (simp [insL] <;> omega)) (by first | omega | (simp [insL] <;> omega)) (by first | omega | (simp [insL] <;> omega)) | exact SmallA.free (by assumption)
   replace M := M.rechunk 0 (c' := arenaC 107 112 S152 ab l1_) rfl (by rw [hl1_])
   refine W.drawn M [0, 1, 2, 3, 4, 5, 6, 7, 8] [8] [] _ _ (sN (sY (sY (sY (sY (sY (sY (sY (sY (sY sE)))))))))) (fun _ h => h) Tryz.mixed (by kernel_rfl) ?_
   refine tP (vP tb) rfl (fun w => (Step.move rfl)) ?_
   refine tP (Value.pointer (some ⟨b13, 2, none⟩)) rfl (fun w => sP) ?_
   refine tR dv4 rfl (fun A w M => (Step.load1 Tryz.sc90 rfl ((M.cell 5 rfl 2).trans rfl))) ?_
   refine tP (vI ↑i) rfl (fun w => (Step.move rfl)) ?_
   refine tP (vI (↑(i + 1))) rfl (fun w => (Step.cast (congrArg (Value.int .i64) (show (↑i + 1 : Int) = ↑(i + 1) by omega)) (Step.add rfl rfl (wrap_i64 (by omega))))) ?_
   refine tP (vQ dv4 (i + 1) 2) rfl (fun w => (sX (i + 1) Tryz.un90 Tryz.el68 rfl rfl hb16)) ?_
   refine tR (Value.agg #[(vI x22.at_), (vI x22.turn)]) rfl (fun A w M => (Step.loadEN (k := 0) (cs' := [(vI x22.at_), (vI x22.turn)]) Tryz.ag68 (flat_ec (own_slAt (M.chunk 7 rfl).inv) hx22 handleE_len) (by decide) rfl rfl rfl)) ?_
   refine tR (Value.agg #[(vB nb_.leaf), (vSlice 1 (at_ + 1) ((na_.keys ++ ((n.keys.drop i).take 1 ++ nb_.keys)).length) (vCap v73) v73), dv54, (vSlice 1 (at_ + 1) ((na_.vals ++ ((n.vals.drop i).take 1 ++ nb_.vals)).length) (vCap v85) v85)]) rfl (fun A w M => (Step.loadN Tryz.ag93 rfl (M.blk 3 rfl) (Nat.le_of_ble_eq_true rfl) rfl)) ?_
   let Q : List Chunk := [oI v85 (na_.vals ++ ((n.vals.drop i).take 1 ++ nb_.vals)), oS v73 (na_.keys ++ ((n.keys.drop i).take 1 ++ nb_.keys)), bk b63 #[(vB nb_.leaf), (vSlice 1 (at_ + 1) ((na_.keys ++ ((n.keys.drop i).take 1 ++ nb_.keys)).length) (vCap v73) v73), dv54, (vSlice 1 (at_ + 1) ((na_.vals ++ ((n.vals.drop i).take 1 ++ nb_.vals)).length) (vCap v85) v85)] 93, oH dv54 nb_.kids, bk b13 #[(vB n.leaf), kv3, dv4, vv5] 93, own 9 1 kv3 n.keys.length (pre107 ++ ([(vS x100)] ++ post108)), oH dv4 n.kids, own 3 1 vv5 n.vals.length (pre115 ++ ([(vI x103)] ++ post116)), bk b1 #[(vI h.at_), (vI h.turn)] 68]
   refine TW.callX (ι := (Nat → Prop)) (fun jx v_ => v_ = undef) (fun jx => arenaC 107 112 jx ab ((rput l1_ x22 (⟨nb_.leaf, ((na_.keys ++ ((n.keys.drop i).take 1 ++ nb_.keys)).drop (at_ + 1)).take (((na_.keys ++ ((n.keys.drop i).take 1 ++ nb_.keys)).length) - (at_ + 1)), nb_.kids, ((na_.vals ++ ((n.vals.drop i).take 1 ++ nb_.vals)).drop (at_ + 1)).take (((na_.vals ++ ((n.vals.drop i).take 1 ++ nb_.vals)).length) - (at_ + 1))⟩ : Nd)).1) :: Q) (fun jx => [bF tb #[(vP ab), (vI r.at_), (vI r.turn), (vB fu), (vI ln)] 70]) rfl (by decide) rfl (fun jx => (sN (sY (sY (sY (sY (sY (sY (sY (sY (sY sE))))))))))) (fun jx r h => h) (fun A w M => have fq := M.frm [arenaC 107 112 S152 ab l1_] (fl A :: Q) [1, 0, 2, 3, 4, 5, 6, 7, 8, 9, 10] rfl; Rets.mono (tr_put tb ab r fu ln l1_ S152 x22 (vSlice 1 (at_ + 1) ((na_.keys ++ ((n.keys.drop i).take 1 ++ nb_.keys)).length) (vCap v73) v73) dv54 (vSlice 1 (at_ + 1) ((na_.vals ++ ((n.vals.drop i).take 1 ++ nb_.vals)).length) (vCap v85) v85) (⟨nb_.leaf, ((na_.keys ++ ((n.keys.drop i).take 1 ++ nb_.keys)).drop (at_ + 1)).take (((na_.keys ++ ((n.keys.drop i).take 1 ++ nb_.keys)).length) - (at_ + 1)), nb_.kids, ((na_.vals ++ ((n.vals.drop i).take 1 ++ nb_.vals)).drop (at_ + 1)).take (((na_.vals ++ ((n.vals.drop i).take 1 ++ nb_.vals)).length) - (at_ + 1))⟩ : Nd) (by assumption) (by simp [insL] <;> omega) (by simp [insL] <;> omega) (by simp [insL] <;> omega) (M.eF fq ⟨(M.rF fq 0 rfl), ((((M.cF fq 2 rfl).imp fun _ h => own_slAt h)).imp fun _ h => slat_sliceF strE_len (l := at_ + 1) (h := (na_.keys ++ ((n.keys.drop i).take 1 ++ nb_.keys)).length) h (by omega) (by omega) (Nat.le_trans (by omega) (SlAt.cap h).1) (Nat.le_refl _)), ((M.cF fq 4 rfl).imp fun _ h => own_slAt h), ((((M.cF fq 1 rfl).imp fun _ h => own_slAt h)).imp fun _ h => slat_sliceF intE_len (l := at_ + 1) (h := (na_.vals ++ ((n.vals.drop i).take 1 ++ nb_.vals)).length) h (by omega) (by omega) (Nat.le_trans (by omega) (SlAt.cap h).1) (Nat.le_refl _)), trivial⟩)) (fun v_ w_ ⟨S156, e_, m⟩ => ⟨S156, e_, (M.lF fq m).sel [1, 0, 2, 3, 4, 5, 6, 7, 8, 9, 10] rfl (by decide), fun b hb => M.kF fq m b hb⟩)) (fun w => CallsF.func Tryz.en68 rfl) (fun S156 v hp hin => ?_)
   replace hp := hp.symm; subst hp
   obtain ⟨_, _, hin⟩ := hin
   clear hin
   refine TW.done (fun w157 M => ?_)
   replace M := M.loseI 4
   replace M := M.loseI 3
   replace M := M.loseI 2
   replace M := M.loseI 1
   obtain ⟨l2_, hl2_⟩ : ∃ q, ((rput l1_ x22 (⟨nb_.leaf, ((na_.keys ++ ((n.keys.drop i).take 1 ++ nb_.keys)).drop (at_ + 1)).take (((na_.keys ++ ((n.keys.drop i).take 1 ++ nb_.keys)).length) - (at_ + 1)), nb_.kids, ((na_.vals ++ ((n.vals.drop i).take 1 ++ nb_.vals)).drop (at_ + 1)).take (((na_.vals ++ ((n.vals.drop i).take 1 ++ nb_.vals)).length) - (at_ + 1))⟩ : Nd)).1) = q := ⟨_, rfl⟩
   have hAl2_ : SmallA l2_ := by rw [← hl2_]; first | exact SmallA.put (by assumption) (by first | omega | (simp [insL] <;> omega)) (by first | omega | (simp [insL] <;> omega)) (by first | omega | (simp [insL] <;> omega)) | exact SmallA.free (by assumption)
   replace M := M.rechunk 0 (c' := arenaC 107 112 S156 ab l2_) rfl (by rw [hl2_])
   refine W.region rfl (wM (vP tb) (wS (Value.agg #[(vI h.at_), (vI h.turn)]) rfl (Step.loadN Tryz.ag68 rfl (M.blk 5 rfl) (Nat.le_of_ble_eq_true rfl) rfl) (wS (Value.agg #[(vB n.leaf), kv3, dv4, vv5]) rfl (Step.loadN Tryz.ag93 rfl (M.blk 1 rfl) (Nat.le_of_ble_eq_true rfl) rfl) ?_)))
   replace M := M.rechunk 2 (c' := own 9 1 kv3 (n.keys.length) ((n.keys.set i x100).flatMap strE)) rfl (by rw [← hback111]; rfl)
   replace M := M.rechunk 2 (c' := oS kv3 (n.keys.set i x100)) rfl (by show _ = own 9 1 kv3 ((n.keys.set i x100).length) ((n.keys.set i x100).flatMap strE); rw [List.length_set])
   replace M := M.rechunk 4 (c' := own 3 1 vv5 (n.vals.length) ((n.vals.set i x103).flatMap intE)) rfl (by rw [← hback119]; rfl)
   replace M := M.rechunk 4 (c' := oI vv5 (n.vals.set i x103)) rfl (by show _ = own 3 1 vv5 ((n.vals.set i x103).length) ((n.vals.set i x103).flatMap intE); rw [List.length_set])
   have fq := M.frm [arenaC 107 112 S156 ab l2_] [bk b13 #[(vB n.leaf), kv3, dv4, vv5] 93, oS kv3 (n.keys.set i x100), oH dv4 n.kids, oI vv5 (n.vals.set i x103), bk b1 #[(vI h.at_), (vI h.turn)] 68] [0, 1, 2, 3, 4, 5] rfl
   refine WL.callX rfl (tr_put tb ab r fu ln l2_ S156 h kv3 dv4 vv5 (⟨n.leaf, n.keys.set i x100, n.kids, n.vals.set i x103⟩ : Nd) (by assumption) (by simp [insL] <;> omega) (by simp [insL] <;> omega) (by simp [insL] <;> omega) (M.eF fq ⟨(M.rF fq 0 rfl), ((M.cF fq 1 rfl).imp fun _ h => own_slAt h), ((M.cF fq 2 rfl).imp fun _ h => own_slAt h), ((M.cF fq 3 rfl).imp fun _ h => own_slAt h), trivial⟩)) (CallsF.func Tryz.en68 rfl) ?_
   rintro _ w159 ⟨S158, rfl, m⟩
   replace M := M.lF fq m
   clear m
   refine WL.nil ?_
   refine ⟨.inr rfl, undef, ?_, ?_⟩
   · exact ⟨rfl, Res.none⟩
   have e160 : (turnF l h i lw) = (rput l2_ h (⟨n.leaf, n.keys.set i x100, n.kids, n.vals.set i x103⟩ : Nd)).1 := by
    rw [turnF_eq (at_ := at_) hn hgd1_ hgd2_ hna_ hnb_ hat_]
    subst hl2_
    subst hl1_
    simp only [drop_rest]
    simp [hlf_, hlfb_, drop_rest, List.getD, hx18, hx22, hx100, hx103, hx106, hx114, h132]
   replace M := M.rechunk 0 (c' := arenaC 107 112 S158 ab (turnF l h i lw)) rfl (congrArg (fun z => arenaC 107 112 S158 ab z) e160.symm)
   refine ⟨S158, ?_, M.close [0] rfl (by decide) trivial⟩
   rfl
end Go.Proofs
set_option maxRecDepth 100000
namespace Go.Proofs
open Go Tp
theorem Tryz.en53 : Enters Tryz.prog 53 := fun _ _ => by kernel_rfl
theorem Tryz.en73 : Enters Tryz.prog 73 := fun _ _ => by kernel_rfl
theorem Tryz.en74 : Enters Tryz.prog 74 := fun _ _ => by kernel_rfl
theorem Tryz.en104 : Enters Tryz.prog 104 := fun _ _ => by kernel_rfl
set_option maxHeartbeats 4000000 in
theorem tr_join {G X : Nat → Prop} {w : World} (tb ab : Nat) (r : Handle) (fu : Bool) (ln : Int) (l : List RPlace) (S : Nat → Prop) (h : Handle) (i : Nat)  (hO : pairOk l h i) (M : Mem G X w [arenaC 107 112 S ab l] [bF tb #[(vP ab), (vI r.at_), (vI r.turn), (vB fu), (vI ln)] 70] w) : Rets Tryz.prog 94 #[(vP tb), (Value.agg #[(vI h.at_), (vI h.turn)]), (vI ↑i)] w fun r w' => ∃ (S' : Nat → Prop), r = undef ∧ Mem G X w [arenaC 107 112 S' ab (joinF l h i)] [] w' := by
 refine Rets.enter 106 _ Tryz.func94 rfl Tryz.ntmps94 Tryz.results94 (by simp) ?_
 obtain ⟨n, hn⟩ : ∃ n, (rget l h).1 = n := ⟨_, rfl⟩
 obtain ⟨hA, hty, hvl, hin_, hkn_⟩ := pairOk_n hO hn
 obtain ⟨ht1, ht2, ht3⟩ := hty
 refine wR ?_
 refine WL.box (v := (Value.agg #[(vI h.at_), (vI h.turn)])) (c := #[(vI h.at_), (vI h.turn)]) M rfl rfl rfl (fun b1 w2 hb1 M => ?_)
 refine WL.nil (wR (wM (vP tb) (wS (Value.agg #[(vI h.at_), (vI h.turn)]) rfl (Step.loadN Tryz.ag68 rfl (M.blk 0 rfl) (Nat.le_of_ble_eq_true rfl) rfl) ?_)))
 have fq := M.frm [arenaC 107 112 S ab l] [bk b1 #[(vI h.at_), (vI h.turn)] 68] [1, 0] rfl
 refine WL.callX rfl (tr_node tb ab r fu ln l S h (by assumption) n hn (M.eF fq ⟨(M.rF fq 0 rfl), trivial⟩)) (CallsF.func Tryz.en52 rfl) ?_
 rintro _ w6 ⟨kv3, dv4, vv5, rfl, m⟩
 replace M := M.lF fq m
 clear m
 have sl7 : IsSl kv3 := SlAt.isSl (own_slAt (Mem.chunk M 1 rfl).inv)
 have hle8 := SlAt.le' (own_slAt (Mem.chunk M 1 rfl).inv)
 have sl9 : IsSl dv4 := SlAt.isSl (own_slAt (Mem.chunk M 2 rfl).inv)
 have hle10 := SlAt.le' (own_slAt (Mem.chunk M 2 rfl).inv)
 have sl11 : IsSl vv5 := SlAt.isSl (own_slAt (Mem.chunk M 3 rfl).inv)
 have hle12 := SlAt.le' (own_slAt (Mem.chunk M 3 rfl).inv)
 refine WL.alloc (c := #[(vB false), vZ, vZ, vZ]) M rfl Tryz.el93.zero rfl (fun b13 w14 hb13 M => ?_)
 refine WL.store (v := (Value.agg #[(vB n.leaf), kv3, dv4, vv5])) (cs := [(vB n.leaf), kv3, dv4, vv5]) (c' := #[(vB n.leaf), kv3, dv4, vv5]) M 0 rfl rfl Tryz.el93.sized rfl rfl rfl rfl (Nat.le_of_ble_eq_true rfl) (cel_cons rfl (cel_cons (IsSl.cel sl7) (cel_cons (IsSl.cel sl9) (cel_cons (IsSl.cel sl11) cel_nil)))) rfl rfl (fun w15 M => ?_)
 refine WL.nil (W.seq' ?_)
 obtain ⟨cap17, hb16⟩ := SlAt.base (own_slAt (M.chunk 3 rfl).inv) (by omega)
 obtain ⟨x18, hx18⟩ := elem_of_lt (xs := n.kids) (i := i) (by omega)
 have hgd1_ : n.kids.getD i hdZero = x18 := by rw [List.getD_eq_getElem?_getD, hx18]; rfl
 obtain ⟨x22, hx22⟩ := elem_of_lt (xs := n.kids) (i := i + 1) (by omega)
 have hgd2_ : n.kids.getD (i + 1) hdZero = x22 := by rw [List.getD_eq_getElem?_getD, hx22]; rfl
 refine W.drawn M [0, 1, 2, 3, 4, 5, 6, 7, 8, 9, 10, 11, 12, 13, 14, 15, 16, 17, 18] [6, 14, 17, 18] [15, 16] _ _ (sY (sY (sY (sY (sY (sY sE)))))) (fun _ h => h) Tryz.mixed (by kernel_rfl) ?_
 refine tP (vP tb) rfl (fun w => (Step.move rfl)) ?_
 refine tP (Value.pointer (some ⟨b13, 2, none⟩)) rfl (fun w => sP) ?_
 refine tR dv4 rfl (fun A w M => (Step.load1 Tryz.sc90 rfl ((M.cell 1 rfl 2).trans rfl))) ?_
 refine tP (vI ↑i) rfl (fun w => (Step.move rfl)) ?_
 refine tP (vQ dv4 i 2) rfl (fun w => (sX i Tryz.un90 Tryz.el68 rfl rfl hb16)) ?_
 refine tR (Value.agg #[(vI x18.at_), (vI x18.turn)]) rfl (fun A w M => (Step.loadEN (k := 0) (cs' := [(vI x18.at_), (vI x18.turn)]) Tryz.ag68 (flat_ec (own_slAt (M.chunk 4 rfl).inv) hx18 handleE_len) (by decide) rfl rfl rfl)) ?_
 obtain ⟨na_, hna_⟩ : ∃ n, (rget l x18).1 = n := ⟨_, rfl⟩
 let Q : List Chunk := [bk b13 #[(vB n.leaf), kv3, dv4, vv5] 93, oS kv3 n.keys, oH dv4 n.kids, oI vv5 n.vals, bk b1 #[(vI h.at_), (vI h.turn)] 68]
 refine TW.callX (ι := Value × Value × Value) (fun jx v_ => v_ = (Value.agg #[(vB na_.leaf), jx.1, jx.2.1, jx.2.2])) (fun jx => [oS jx.1 na_.keys, oH jx.2.1 na_.kids, oI jx.2.2 na_.vals, bk b13 #[(vB n.leaf), kv3, dv4, vv5] 93, arenaC 107 112 S ab l, oS kv3 n.keys, oH dv4 n.kids, oI vv5 n.vals, bk b1 #[(vI h.at_), (vI h.turn)] 68]) (fun jx => [bF tb #[(vP ab), (vI r.at_), (vI r.turn), (vB fu), (vI ln)] 70]) rfl (by decide) rfl (fun jx => (sN (sN (sN (sY (sY (sY (sY (sY (sY sE)))))))))) (fun jx r h => h) (fun A w M => have fq := M.frm [arenaC 107 112 S ab l] (fl A :: Q) [2, 0, 1, 3, 4, 5, 6] rfl; Rets.mono (tr_node tb ab r fu ln l S x18 (by assumption) na_ hna_ (M.eF fq ⟨(M.rF fq 0 rfl), trivial⟩)) (fun v_ w_ ⟨kv44, dv45, vv46, e_, m⟩ => ⟨(kv44, dv45, vv46), e_, (M.lF fq m).sel [4, 1, 2, 3, 5, 0, 6, 7, 8, 9] rfl (by decide), fun b hb => M.kF fq m b hb⟩)) (fun w => CallsF.func Tryz.en52 rfl) (fun jx v hp hin => ?_)
 obtain ⟨kv44, dv45, vv46⟩ := jx
 replace hp := hp.symm; subst hp
 obtain ⟨_, _, hin⟩ := hin
 have sl47 : IsSl kv44 := SlAt.isSl (own_slAt (Mem.chunk hin 1 rfl).inv)
 have hle48 := SlAt.le' (own_slAt (Mem.chunk hin 1 rfl).inv)
 have sl49 : IsSl dv45 := SlAt.isSl (own_slAt (Mem.chunk hin 2 rfl).inv)
 have hle50 := SlAt.le' (own_slAt (Mem.chunk hin 2 rfl).inv)
 have sl51 : IsSl vv46 := SlAt.isSl (own_slAt (Mem.chunk hin 3 rfl).inv)
 have hle52 := SlAt.le' (own_slAt (Mem.chunk hin 3 rfl).inv)
 clear hin
 refine tP (vP tb) rfl (fun w => (Step.move rfl)) ?_
 refine tP (Value.pointer (some ⟨b13, 2, none⟩)) rfl (fun w => sP) ?_
 refine tR dv4 rfl (fun A w M => (Step.load1 Tryz.sc90 rfl ((M.cell 1 rfl 2).trans rfl))) ?_
 refine tP (vI ↑i) rfl (fun w => (Step.move rfl)) ?_
 refine tP (vI (↑(i + 1))) rfl (fun w => (Step.cast (congrArg (Value.int .i64) (show (↑i + 1 : Int) = ↑(i + 1) by omega)) (Step.add rfl rfl (wrap_i64 (by omega))))) ?_
 refine tP (vQ dv4 (i + 1) 2) rfl (fun w => (sX (i + 1) Tryz.un90 Tryz.el68 rfl rfl hb16)) ?_
 refine tR (Value.agg #[(vI x22.at_), (vI x22.turn)]) rfl (fun A w M => (Step.loadEN (k := 0) (cs' := [(vI x22.at_), (vI x22.turn)]) Tryz.ag68 (flat_ec (own_slAt (M.chunk 4 rfl).inv) hx22 handleE_len) (by decide) rfl rfl rfl)) ?_
 obtain ⟨nb_, hnb_⟩ : ∃ n, (rget l x22).1 = n := ⟨_, rfl⟩
 have hP := pairOk_at hO hn hgd1_ hgd2_ hna_ hnb_
 obtain ⟨hta1, hta2, hta3⟩ := hP.a_
 obtain ⟨htb1, htb2, htb3⟩ := hP.b_
 have hal_ := hP.al
 have hbl_ := hP.bl
 have ha1_ := hP.a1
 have hb1_ := hP.b1
 have hlfb_ := hP.lf
 let Q : List Chunk := [oS kv44 na_.keys, oH dv45 na_.kids, oI vv46 na_.vals, bk b13 #[(vB n.leaf), kv3, dv4, vv5] 93, oS kv3 n.keys, oH dv4 n.kids, oI vv5 n.vals, bk b1 #[(vI h.at_), (vI h.turn)] 68]
 refine TW.callX (ι := Value × Value × Value) (fun jx v_ => v_ = (Value.agg #[(vB nb_.leaf), jx.1, jx.2.1, jx.2.2])) (fun jx => [oS jx.1 nb_.keys, oH jx.2.1 nb_.kids, oI jx.2.2 nb_.vals, oS kv44 na_.keys, oH dv45 na_.kids, oI vv46 na_.vals, bk b13 #[(vB n.leaf), kv3, dv4, vv5] 93, arenaC 107 112 S ab l, oS kv3 n.keys, oH dv4 n.kids, oI vv5 n.vals, bk b1 #[(vI h.at_), (vI h.turn)] 68]) (fun jx => [bF tb #[(vP ab), (vI r.at_), (vI r.turn), (vB fu), (vI ln)] 70]) rfl (by decide) rfl (fun jx => (sN (sN (sN (sN (sN (sN (sY (sY (sY (sY (sY (sY sE))))))))))))) (fun jx r h => h) (fun A w M => have fq := M.frm [arenaC 107 112 S ab l] (fl A :: Q) [5, 0, 1, 2, 3, 4, 6, 7, 8, 9] rfl; Rets.mono (tr_node tb ab r fu ln l S x22 (by assumption) nb_ hnb_ (M.eF fq ⟨(M.rF fq 0 rfl), trivial⟩)) (fun v_ w_ ⟨kv53, dv54, vv55, e_, m⟩ => ⟨(kv53, dv54, vv55), e_, (M.lF fq m).sel [4, 1, 2, 3, 5, 6, 7, 8, 0, 9, 10, 11, 12] rfl (by decide), fun b hb => M.kF fq m b hb⟩)) (fun w => CallsF.func Tryz.en52 rfl) (fun jx v hp hin => ?_)
 obtain ⟨kv53, dv54, vv55⟩ := jx
 replace hp := hp.symm; subst hp
 obtain ⟨_, _, hin⟩ := hin
 have sl56 : IsSl kv53 := SlAt.isSl (own_slAt (Mem.chunk hin 1 rfl).inv)
 have hle57 := SlAt.le' (own_slAt (Mem.chunk hin 1 rfl).inv)
 have sl58 : IsSl dv54 := SlAt.isSl (own_slAt (Mem.chunk hin 2 rfl).inv)
 have hle59 := SlAt.le' (own_slAt (Mem.chunk hin 2 rfl).inv)
 have sl60 : IsSl vv55 := SlAt.isSl (own_slAt (Mem.chunk hin 3 rfl).inv)
 have hle61 := SlAt.le' (own_slAt (Mem.chunk hin 3 rfl).inv)
 clear hin
 refine TW.new (obj := .cells #[(vB false), vZ, vZ, vZ] 93) (fun b => .pointer (some ⟨b, 0, none⟩)) rfl (by decide) (by decide) rfl (fun w => Step.alloc Tryz.el93.zero) (fun b62 => ?_)
 refine TW.new (obj := .cells #[(vB false), vZ, vZ, vZ] 93) (fun b => .pointer (some ⟨b, 0, none⟩)) rfl (by decide) (by decide) rfl (fun w => Step.alloc Tryz.el93.zero) (fun b63 => ?_)
 refine TW.store (v := (Value.agg #[(vB na_.leaf), kv44, dv45, vv46])) (cs := [(vB na_.leaf), kv44, dv45, vv46]) (c' := #[(vB na_.leaf), kv44, dv45, vv46]) 1 rfl rfl (by decide) rfl Tryz.el93.sized rfl rfl rfl rfl (Nat.le_of_ble_eq_true rfl) (cel_cons rfl (cel_cons (IsSl.cel sl47) (cel_cons (IsSl.cel sl49) (cel_cons (IsSl.cel sl51) cel_nil)))) rfl rfl (sN (sN (sN (sN (sN (sN (sN (sN (sY (sY (sY (sY (sY (sY sE)))))))))))))) (fun r h => h) ?_
 refine TW.store (v := (Value.agg #[(vB nb_.leaf), kv53, dv54, vv55])) (cs := [(vB nb_.leaf), kv53, dv54, vv55]) (c' := #[(vB nb_.leaf), kv53, dv54, vv55]) 0 rfl rfl (by decide) rfl Tryz.el93.sized rfl rfl rfl rfl (Nat.le_of_ble_eq_true rfl) (cel_cons rfl (cel_cons (IsSl.cel sl56) (cel_cons (IsSl.cel sl58) (cel_cons (IsSl.cel sl60) cel_nil)))) rfl rfl (sN (sN (sN (sN (sN (sN (sN (sN (sY (sY (sY (sY (sY (sY sE)))))))))))))) (fun r h => h) ?_
 refine TW.done (fun w64 M => ?_)
 refine W.seq' ?_
 have hsh65 := SlAt.shp (own_slAt (M.chunk 10 rfl).inv)
 have hsh65c := hsh65
 obtain ⟨_, _, hsh65l, hsh65m⟩ := hsh65c
 have hsh66 := SlAt.shp (own_slAt (M.chunk 12 rfl).inv)
 have hsh66c := hsh66
 obtain ⟨_, _, hsh66l, hsh66m⟩ := hsh66c
 refine W.drawn2 M [0, 1, 2, 3, 4, 5, 6, 7, 8, 9, 12, 13, 14, 15, 16, 17, 18, 19, 20, 21, 10, 11, 24, 22, 23] [25, 26, 27] [11, 23, 25, 27] [10, 22] _ _ (sY (sY (sY (sY (sY (sY (sY (sY (sY (sY (sY (sY (sY (sY sE)))))))))))))) (fun _ h => h) Tryz.mixed (by kernel_rfl) ?_
 refine tP (Value.pointer (some ⟨b62, 1, none⟩)) rfl (fun w => sP) ?_
 refine tR kv44 rfl (fun A w M => (Step.load1 Tryz.sc23 rfl ((M.cell 2 rfl 1).trans rfl))) ?_
 refine tP (Value.pointer (some ⟨b13, 1, none⟩)) rfl (fun w => sP) ?_
 refine tR kv3 rfl (fun A w M => (Step.load1 Tryz.sc23 rfl ((M.cell 9 rfl 1).trans rfl))) ?_
 refine tP (vI ↑i) rfl (fun w => (Step.move rfl)) ?_
 refine tP (vI ↑i) rfl (fun w => (Step.move rfl)) ?_
 refine tP (vI (↑(i + 1))) rfl (fun w => (Step.cast (congrArg (Value.int .i64) (show (↑i + 1 : Int) = ↑(i + 1) by omega)) (Step.add rfl rfl (wrap_i64 (by omega))))) ?_
 refine tP (vSlice 1 i (i + 1) (vCap kv3) kv3) rfl (fun w => (Step.sliceLHP (l := i) (h := i + 1) Tryz.un23 Tryz.el9.sized rfl rfl (by omega) rfl (by omega) hsh65 (by omega) (by obtain ⟨_, _, _, _⟩ := hsh65; omega))) ?_
 refine tP (Value.pointer (some ⟨b63, 1, none⟩)) rfl (fun w => sP) ?_
 refine tR kv53 rfl (fun A w M => (Step.load1 Tryz.sc23 rfl ((M.cell 1 rfl 1).trans rfl))) ?_
 refine tP (Value.pointer (some ⟨b62, 3, none⟩)) rfl (fun w => sP) ?_
 refine tR vv46 rfl (fun A w M => (Step.load1 Tryz.sc91 rfl ((M.cell 2 rfl 3).trans rfl))) ?_
 refine tP (Value.pointer (some ⟨b13, 3, none⟩)) rfl (fun w => sP) ?_
 refine tR vv5 rfl (fun A w M => (Step.load1 Tryz.sc91 rfl ((M.cell 9 rfl 3).trans rfl))) ?_
 refine tP (vI ↑i) rfl (fun w => (Step.move rfl)) ?_
 refine tP (vI ↑i) rfl (fun w => (Step.move rfl)) ?_
 refine tP (vI (↑(i + 1))) rfl (fun w => (Step.cast (congrArg (Value.int .i64) (show (↑i + 1 : Int) = ↑(i + 1) by omega)) (Step.add rfl rfl (wrap_i64 (by omega))))) ?_
 refine tP (vSlice 1 i (i + 1) (vCap vv5) vv5) rfl (fun w => (Step.sliceLHP (l := i) (h := i + 1) Tryz.un91 Tryz.el3.sized rfl rfl (by omega) rfl (by omega) hsh66 (by omega) (by obtain ⟨_, _, _, _⟩ := hsh66; omega))) ?_
 refine tP (Value.pointer (some ⟨b63, 3, none⟩)) rfl (fun w => sP) ?_
 refine tR vv55 rfl (fun A w M => (Step.load1 Tryz.sc91 rfl ((M.cell 1 rfl 3).trans rfl))) ?_
 refine TW.new (obj := .cells #[kv44, (vSlice 1 i (i + 1) (vCap kv3) kv3), kv53] 23) (fun b => .slice (some ⟨b, 0, none⟩) 3 3) rfl (by decide) (by decide) rfl (fun w => (by obtain ⟨_, _, _, e⟩ := sl47; subst e; obtain ⟨_, _, _, e⟩ := (vSlice_sl (Shp.isSl hsh65)); rw [e]; obtain ⟨_, _, _, e⟩ := sl56; subst e; exact Step.make (by kernel_rfl))) (fun b95 => ?_)
 let Q : List Chunk := [bk b95 #[kv44, (vSlice 1 i (i + 1) (vCap kv3) kv3), kv53] 23, bk b63 #[(vB nb_.leaf), kv53, dv54, vv55] 93, bk b62 #[(vB na_.leaf), kv44, dv45, vv46] 93, oS kv53 nb_.keys, oH dv54 nb_.kids, oI vv55 nb_.vals, oS kv44 na_.keys, oH dv45 na_.kids, oI vv46 na_.vals, bk b13 #[(vB n.leaf), kv3, dv4, vv5] 93, arenaC 107 112 S ab l, oS kv3 n.keys, oH dv4 n.kids, oI vv5 n.vals, bk b1 #[(vI h.at_), (vI h.turn)] 68]
 refine TW.callX (ι := Value) (fun jx v_ => v_ = jx) (fun jx => oS jx (([na_.keys, (n.keys.drop i).take ((i + 1) - i), nb_.keys] : List (List ByteArray)).flatten) :: Q) (fun jx => [bF tb #[(vP ab), (vI r.at_), (vI r.turn), (vB fu), (vI ln)] 70]) rfl (by decide) rfl (fun jx => (sN (sN (sY (sY (sY (sY (sY (sY (sY (sY (sY (sY (sY (sY (sY (sY sE))))))))))))))))) (fun jx r h => h) (fun A w M => Rets.mono (concat_str (Value.slice (some ⟨b95, 0, none⟩) 3 3) ([na_.keys, (n.keys.drop i).take ((i + 1) - i), nb_.keys] : List (List ByteArray)) (by simp [sumL]; omega) (by simp) (M.enterW0 ⟨((((M.wideC0 1 rfl)).and (((M.wideC0 7 rfl).imp fun _ h => own_slAt h).and (((((M.wideC0 12 rfl).imp fun _ h => own_slAt h)).imp fun _ h => slat_sliceF strE_len (l := i) (h := i + 1) h (by omega) (by omega) (Nat.le_trans (by omega) (SlAt.cap h).1) (Nat.le_refl _)).and ((M.wideC0 4 rfl).imp fun _ h => own_slAt h)))).imp fun _ ⟨hb_, hq0_, hq1_, hq2_⟩ => repS_blk (SlsT 1 strE) (cs := [kv44, (vSlice 1 i (i + 1) (vCap kv3) kv3), kv53]) (xs := [na_.keys, (n.keys.drop i).take ((i + 1) - i), nb_.keys]) hb_ rfl (by decide) (repL_snoc (T := (SlsT 1 strE)) (new := [kv53]) (x := nb_.keys) (repL_snoc (T := (SlsT 1 strE)) (new := [(vSlice 1 i (i + 1) (vCap kv3) kv3)]) (x := (n.keys.drop i).take ((i + 1) - i)) (repL_snoc (T := (SlsT 1 strE)) (new := [kv44]) (x := na_.keys) repL_nil (⟨_, rfl, hq0_⟩ : slRep 1 strE _ _ _)) (⟨_, rfl, hq1_⟩ : slRep 1 strE _ _ _)) (⟨_, rfl, hq2_⟩ : slRep 1 strE _ _ _))), trivial⟩)) (fun v_ w_ ⟨v96, e_, m⟩ => ⟨v96, e_, (M.leaveW0 m).sel [1, 0, 2, 3, 4, 5, 6, 7, 8, 9, 10, 11, 12, 13, 14, 15, 16] rfl (by decide), fun b hb => M.k0F m b hb⟩)) (fun w => CallsF.func Tryz.en101 rfl) (fun v96 v hp hin => ?_)
 replace hp := hp.symm; subst hp
 obtain ⟨_, _, hin⟩ := hin
 have sl97 : IsSl v96 := SlAt.isSl (own_slAt (Mem.chunk hin 1 rfl).inv)
 have hle98 := SlAt.le' (own_slAt (Mem.chunk hin 1 rfl).inv)
 clear hin
 refine tP (Value.pointer (some ⟨b62, 1, none⟩)) rfl (fun w => sP) ?_
 refine TW.new (obj := .cells #[vv46, (vSlice 1 i (i + 1) (vCap vv5) vv5), vv55] 91) (fun b => .slice (some ⟨b, 0, none⟩) 3 3) rfl (by decide) (by decide) rfl (fun w => (by obtain ⟨_, _, _, e⟩ := sl51; subst e; obtain ⟨_, _, _, e⟩ := (vSlice_sl (Shp.isSl hsh66)); rw [e]; obtain ⟨_, _, _, e⟩ := sl60; subst e; exact Step.make (by kernel_rfl))) (fun b99 => ?_)
 let Q : List Chunk := [bk b99 #[vv46, (vSlice 1 i (i + 1) (vCap vv5) vv5), vv55] 91, oS v96 (([na_.keys, (n.keys.drop i).take ((i + 1) - i), nb_.keys] : List (List ByteArray)).flatten), bk b95 #[kv44, (vSlice 1 i (i + 1) (vCap kv3) kv3), kv53] 23, bk b63 #[(vB nb_.leaf), kv53, dv54, vv55] 93, bk b62 #[(vB na_.leaf), kv44, dv45, vv46] 93, oS kv53 nb_.keys, oH dv54 nb_.kids, oI vv55 nb_.vals, oS kv44 na_.keys, oH dv45 na_.kids, oI vv46 na_.vals, bk b13 #[(vB n.leaf), kv3, dv4, vv5] 93, arenaC 107 112 S ab l, oS kv3 n.keys, oH dv4 n.kids, oI vv5 n.vals, bk b1 #[(vI h.at_), (vI h.turn)] 68]
 refine TW.callX (ι := Value) (fun jx v_ => v_ = jx) (fun jx => oI jx (([na_.vals, (n.vals.drop i).take ((i + 1) - i), nb_.vals] : List (List Int)).flatten) :: Q) (fun jx => [bF tb #[(vP ab), (vI r.at_), (vI r.turn), (vB fu), (vI ln)] 70]) rfl (by decide) rfl (fun jx => (sN (sN (sN (sN (sY (sY (sY (sY (sY (sY (sY (sY (sY (sY (sY (sY (sY (sY sE))))))))))))))))))) (fun jx r h => h) (fun A w M => Rets.mono (concat_int (Value.slice (some ⟨b99, 0, none⟩) 3 3) ([na_.vals, (n.vals.drop i).take ((i + 1) - i), nb_.vals] : List (List Int)) (by simp [sumL]; omega) (by simp) (M.enterW0 ⟨((((M.wideC0 1 rfl)).and (((M.wideC0 11 rfl).imp fun _ h => own_slAt h).and (((((M.wideC0 16 rfl).imp fun _ h => own_slAt h)).imp fun _ h => slat_sliceF intE_len (l := i) (h := i + 1) h (by omega) (by omega) (Nat.le_trans (by omega) (SlAt.cap h).1) (Nat.le_refl _)).and ((M.wideC0 8 rfl).imp fun _ h => own_slAt h)))).imp fun _ ⟨hb_, hq0_, hq1_, hq2_⟩ => repS_blk (SlsT 1 intE) (cs := [vv46, (vSlice 1 i (i + 1) (vCap vv5) vv5), vv55]) (xs := [na_.vals, (n.vals.drop i).take ((i + 1) - i), nb_.vals]) hb_ rfl (by decide) (repL_snoc (T := (SlsT 1 intE)) (new := [vv55]) (x := nb_.vals) (repL_snoc (T := (SlsT 1 intE)) (new := [(vSlice 1 i (i + 1) (vCap vv5) vv5)]) (x := (n.vals.drop i).take ((i + 1) - i)) (repL_snoc (T := (SlsT 1 intE)) (new := [vv46]) (x := na_.vals) repL_nil (⟨_, rfl, hq0_⟩ : slRep 1 intE _ _ _)) (⟨_, rfl, hq1_⟩ : slRep 1 intE _ _ _)) (⟨_, rfl, hq2_⟩ : slRep 1 intE _ _ _))), trivial⟩)) (fun v_ w_ ⟨v100, e_, m⟩ => ⟨v100, e_, (M.leaveW0 m).sel [1, 0, 2, 3, 4, 5, 6, 7, 8, 9, 10, 11, 12, 13, 14, 15, 16, 17, 18] rfl (by decide), fun b hb => M.k0F m b hb⟩)) (fun w => CallsF.func Tryz.en102 rfl) (fun v100 v hp hin => ?_)
 replace hp := hp.symm; subst hp
 obtain ⟨_, _, hin⟩ := hin
 have sl101 : IsSl v100 := SlAt.isSl (own_slAt (Mem.chunk hin 1 rfl).inv)
 have hle102 := SlAt.le' (own_slAt (Mem.chunk hin 1 rfl).inv)
 clear hin
 refine TW.turn _ _ (sY (sY (sY (sY (sY (sN (sY (sY (sY (sY (sY (sY (sY (sY (sY (sY (sY (sY sE)))))))))))))))))) (fun _ h => h) ?_
 refine TW.store (v := v96) (cs := [v96]) (c' := #[(vB na_.leaf), v96, dv45, vv46]) 5 rfl rfl (by decide) rfl Tryz.el23.sized rfl rfl (IsSl.list sl97) rfl (Nat.le_of_ble_eq_true rfl) (cel_cons (IsSl.cel sl97) cel_nil) rfl rfl (sY (sY (sY (sY (sY (sN (sY (sY (sY (sY (sY (sY (sY (sY (sY (sY (sY (sY sE)))))))))))))))))) (fun r h => h) ?_
 refine tP (Value.pointer (some ⟨b62, 3, none⟩)) rfl (fun w => sP) ?_
 refine TW.store (v := v100) (cs := [v100]) (c' := #[(vB na_.leaf), v96, dv45, v100]) 5 rfl rfl (by decide) rfl Tryz.el91.sized rfl rfl (IsSl.list sl101) rfl (Nat.le_of_ble_eq_true rfl) (cel_cons (IsSl.cel sl101) cel_nil) rfl rfl (sY (sY (sY (sY (sY (sN (sY (sY (sY (sY (sY (sY (sY (sY (sY (sY (sY (sY sE)))))))))))))))))) (fun r h => h) ?_
 refine TW.done (fun w105 M => ?_)
 refine W.seq' ?_
 replace M := M.loseI 11
 replace M := M.loseI 9
 replace M := M.loseI 3
 replace M := M.loseI 1
 have hcat_keys : ([na_.keys, (n.keys.drop i).take ((i + 1) - i), nb_.keys] : List (List ByteArray)).flatten = na_.keys ++ ((n.keys.drop i).take 1 ++ nb_.keys) := by simp [Nat.add_sub_cancel_left]
 replace M := M.rechunk 1 (c' := oS v96 (na_.keys ++ ((n.keys.drop i).take 1 ++ nb_.keys))) rfl (by rw [hcat_keys])
 have hcl_keys : (na_.keys ++ ((n.keys.drop i).take 1 ++ nb_.keys)).length = na_.keys.length + (1 + nb_.keys.length) := by simp; try omega
 have hcat_vals : ([na_.vals, (n.vals.drop i).take ((i + 1) - i), nb_.vals] : List (List Int)).flatten = na_.vals ++ ((n.vals.drop i).take 1 ++ nb_.vals) := by simp [Nat.add_sub_cancel_left]
 replace M := M.rechunk 0 (c' := oI v100 (na_.vals ++ ((n.vals.drop i).take 1 ++ nb_.vals))) rfl (by rw [hcat_vals])
 have hcl_vals : (na_.vals ++ ((n.vals.drop i).take 1 ++ nb_.vals)).length = na_.vals.length + (1 + nb_.vals.length) := by simp; try omega
 refine W.region rfl (wP (Value.pointer (some ⟨b62, 2, none⟩)) (wS dv45 rfl (Step.load1 Tryz.sc90 rfl ((M.cell 3 rfl 2).trans rfl)) (wP (Value.pointer (some ⟨b63, 2, none⟩)) (wS dv54 rfl (Step.load1 Tryz.sc90 rfl ((M.cell 2 rfl 2).trans rfl)) ?_))))
 refine WL.new (obj := .cells #[dv45, dv54] 90) (fun b => .slice (some ⟨b, 0, none⟩) 2 2) M rfl (fun w => (by obtain ⟨_, _, _, e⟩ := sl49; subst e; obtain ⟨_, _, _, e⟩ := sl58; subst e; exact Step.make (by kernel_rfl))) (fun b106 w107 hb106 M => ?_)
 refine WL.callX rfl (concat_hdl (Value.slice (some ⟨b106, 0, none⟩) 2 2) ([na_.kids, nb_.kids] : List (List Handle)) (by simp [sumL]; omega) (by simp) (M.enterW0 ⟨((((M.wideC0 0 rfl)).and (((M.wideC0 8 rfl).imp fun _ h => own_slAt h).and ((M.wideC0 6 rfl).imp fun _ h => own_slAt h))).imp fun _ ⟨hb_, hq0_, hq1_⟩ => repS_blk (SlsT 2 handleE) (cs := [dv45, dv54]) (xs := [na_.kids, nb_.kids]) hb_ rfl (by decide) (repL_snoc (T := (SlsT 2 handleE)) (new := [dv54]) (x := nb_.kids) (repL_snoc (T := (SlsT 2 handleE)) (new := [dv45]) (x := na_.kids) repL_nil (⟨_, rfl, hq0_⟩ : slRep 2 handleE _ _ _)) (⟨_, rfl, hq1_⟩ : slRep 2 handleE _ _ _))), trivial⟩)) (CallsF.func Tryz.en103 rfl) ?_
 rintro v108 w109 ⟨_, rfl, m⟩
 replace M := M.leaveW0 m
 clear m
 have sl110 : IsSl v108 := SlAt.isSl (own_slAt (Mem.chunk M 0 rfl).inv)
 have hle111 := SlAt.le' (own_slAt (Mem.chunk M 0 rfl).inv)
 refine wP (Value.pointer (some ⟨b62, 2, none⟩)) ?_
 refine WL.store (v := v108) (cs := [v108]) (c' := #[(vB na_.leaf), v96, v108, v100]) M 5 rfl rfl Tryz.el90.sized rfl rfl (IsSl.list sl110) rfl (Nat.le_of_ble_eq_true rfl) (cel_cons (IsSl.cel sl110) cel_nil) rfl rfl (fun w112 M => ?_)
 refine WL.nil (W.seq' ?_)
 replace M := M.loseI 9
 replace M := M.loseI 8
 replace M := M.loseI 7
 replace M := M.loseI 6
 replace M := M.loseI 4
 replace M := M.loseI 1
 have hcat_kids : ([na_.kids, nb_.kids] : List (List Handle)).flatten = na_.kids ++ nb_.kids := by simp [Nat.add_sub_cancel_left]
 replace M := M.rechunk 0 (c' := oH v108 (na_.kids ++ nb_.kids)) rfl (by rw [hcat_kids])
 have hcl_kids : (na_.kids ++ nb_.kids).length = na_.kids.length + nb_.kids.length := by simp; try omega
 refine W.drawn M [0, 1, 2, 3, 4, 5, 6, 7] [7] [] _ _ (sY (sY (sY (sY (sY (sN (sY (sY (sY (sY sE)))))))))) (fun _ h => h) Tryz.mixed (by kernel_rfl) ?_
 refine tP (vP tb) rfl (fun w => (Step.move rfl)) ?_
 refine tP (Value.pointer (some ⟨b13, 2, none⟩)) rfl (fun w => sP) ?_
 refine tR dv4 rfl (fun A w M => (Step.load1 Tryz.sc90 rfl ((M.cell 5 rfl 2).trans rfl))) ?_
 refine tP (vI ↑i) rfl (fun w => (Step.move rfl)) ?_
 refine tP (vQ dv4 i 2) rfl (fun w => (sX i Tryz.un90 Tryz.el68 rfl rfl hb16)) ?_
 refine tR (Value.agg #[(vI x18.at_), (vI x18.turn)]) rfl (fun A w M => (Step.loadEN (k := 0) (cs' := [(vI x18.at_), (vI x18.turn)]) Tryz.ag68 (flat_ec (own_slAt (M.chunk 7 rfl).inv) hx18 handleE_len) (by decide) rfl rfl rfl)) ?_
 refine tR (Value.agg #[(vB na_.leaf), v96, v108, v100]) rfl (fun A w M => (Step.loadN Tryz.ag93 rfl (M.blk 4 rfl) (Nat.le_of_ble_eq_true rfl) rfl)) ?_
 let Q : List Chunk := [oH v108 (na_.kids ++ nb_.kids), oI v100 (na_.vals ++ ((n.vals.drop i).take 1 ++ nb_.vals)), oS v96 (na_.keys ++ ((n.keys.drop i).take 1 ++ nb_.keys)), bk b62 #[(vB na_.leaf), v96, v108, v100] 93, bk b13 #[(vB n.leaf), kv3, dv4, vv5] 93, oS kv3 n.keys, oH dv4 n.kids, oI vv5 n.vals, bk b1 #[(vI h.at_), (vI h.turn)] 68]
 refine TW.callX (ι := (Nat → Prop)) (fun jx v_ => v_ = undef) (fun jx => arenaC 107 112 jx ab ((rput l x18 (⟨na_.leaf, na_.keys ++ ((n.keys.drop i).take 1 ++ nb_.keys), na_.kids ++ nb_.kids, na_.vals ++ ((n.vals.drop i).take 1 ++ nb_.vals)⟩ : Nd)).1) :: Q) (fun jx => [bF tb #[(vP ab), (vI r.at_), (vI r.turn), (vB fu), (vI ln)] 70]) rfl (by decide) rfl (fun jx => (sN (sY (sY (sY (sY (sY (sY (sY (sY (sY sE))))))))))) (fun jx r h => h) (fun A w M => have fq := M.frm [arenaC 107 112 S ab l] (fl A :: Q) [6, 0, 1, 2, 3, 4, 5, 7, 8, 9, 10] rfl; Rets.mono (tr_put tb ab r fu ln l S x18 v96 v108 v100 (⟨na_.leaf, na_.keys ++ ((n.keys.drop i).take 1 ++ nb_.keys), na_.kids ++ nb_.kids, na_.vals ++ ((n.vals.drop i).take 1 ++ nb_.vals)⟩ : Nd) (by assumption) (by simp [insL] <;> omega) (by simp [insL] <;> omega) (by simp [insL] <;> omega) (M.eF fq ⟨(M.rF fq 0 rfl), ((M.cF fq 3 rfl).imp fun _ h => own_slAt h), ((M.cF fq 1 rfl).imp fun _ h => own_slAt h), ((M.cF fq 2 rfl).imp fun _ h => own_slAt h), trivial⟩)) (fun v_ w_ ⟨S115, e_, m⟩ => ⟨S115, e_, (M.lF fq m).sel [1, 0, 2, 3, 4, 5, 6, 7, 8, 9, 10] rfl (by decide), fun b hb => M.kF fq m b hb⟩)) (fun w => CallsF.func Tryz.en68 rfl) (fun S115 v hp hin => ?_)
 replace hp := hp.symm; subst hp
 obtain ⟨_, _, hin⟩ := hin
 clear hin
 refine TW.done (fun w116 M => ?_)
 refine W.seq' ?_
 replace M := M.loseI 4
 replace M := M.loseI 3
 replace M := M.loseI 2
 replace M := M.loseI 1
 obtain ⟨l1_, hl1_⟩ : ∃ q, ((rput l x18 (⟨na_.leaf, na_.keys ++ ((n.keys.drop i).take 1 ++ nb_.keys), na_.kids ++ nb_.kids, na_.vals ++ ((n.vals.drop i).take 1 ++ nb_.vals)⟩ : Nd)).1) = q := ⟨_, rfl⟩
 have hAl1_ : SmallA l1_ := by rw [← hl1_]; first | exact SmallA.put (by assumption) (by first | omega | (simp [insL] <;> omega)) (by first | omega | (simp [insL] <;> omega)) (by first | omega | (simp [insL] <;> omega)) | exact SmallA.free (by assumption)
 replace M := M.rechunk 0 (c' := arenaC 107 112 S115 ab l1_) rfl (by rw [hl1_])
 refine W.drawn M [0, 1, 2, 3, 4, 5, 6, 7, 8, 9, 10, 11] [11] [10] _ _ (sN (sY (sY (sY (sY (sY sE)))))) (fun _ h => h) Tryz.mixed (by kernel_rfl) ?_
 refine tP (vP tb) rfl (fun w => (Step.move rfl)) ?_
 refine tP (vP tb) rfl (fun w => sP) ?_
 refine tP (vP tb) rfl (fun w => sP) ?_
 refine tR (vP ab) rfl (fun A w M => (Step.load1 Tryz.sc65 rfl ((cell_blk (M.rep 0 rfl) 0).trans rfl))) ?_
 refine tP (Value.pointer (some ⟨b13, 2, none⟩)) rfl (fun w => sP) ?_
 refine tR dv4 rfl (fun A w M => (Step.load1 Tryz.sc90 rfl ((M.cell 1 rfl 2).trans rfl))) ?_
 refine tP (vI ↑i) rfl (fun w => (Step.move rfl)) ?_
 refine tP (vI (↑(i + 1))) rfl (fun w => (Step.cast (congrArg (Value.int .i64) (show (↑i + 1 : Int) = ↑(i + 1) by omega)) (Step.add rfl rfl (wrap_i64 (by omega))))) ?_
 refine tP (vQ dv4 (i + 1) 2) rfl (fun w => (sX (i + 1) Tryz.un90 Tryz.el68 rfl rfl hb16)) ?_
 refine tR (Value.agg #[(vI x22.at_), (vI x22.turn)]) rfl (fun A w M => (Step.loadEN (k := 0) (cs' := [(vI x22.at_), (vI x22.turn)]) Tryz.ag68 (flat_ec (own_slAt (M.chunk 3 rfl).inv) hx22 handleE_len) (by decide) rfl rfl rfl)) ?_
 refine TW.new (obj := .cells #[(vI x22.at_), (vI x22.turn)] 68) (fun b => .slice (some ⟨b, 0, none⟩) 1 1) rfl (by decide) (by decide) rfl (fun w => Step.make (by kernel_rfl)) (fun b123 => ?_)
 let Q : List Chunk := [bk b123 #[(vI x22.at_), (vI x22.turn)] 68, bk b13 #[(vB n.leaf), kv3, dv4, vv5] 93, oS kv3 n.keys, oH dv4 n.kids, oI vv5 n.vals, bk b1 #[(vI h.at_), (vI h.turn)] 68]
 refine TW.callX (ι := (Nat → Prop)) (fun jx v_ => v_ = (vI ((rfree l1_ ([x22] : List Handle)).2))) (fun jx => arenaC 107 112 jx ab ((rfree l1_ ([x22] : List Handle)).1) :: Q) (fun jx => [bF tb #[(vP ab), (vI r.at_), (vI r.turn), (vB fu), (vI ln)] 70]) rfl (by decide) rfl (fun jx => (sN (sN (sY (sY (sY (sY (sY sE)))))))) (fun jx r h => h) (fun A w M => have fq := M.frm [arenaC 107 112 S115 ab l1_] (fl A :: Q) [2, 0, 1, 3, 4, 5, 6, 7] rfl; Rets.mono (ar_free ab l1_ S115 (Value.slice (some ⟨b123, 0, none⟩) 1 1) ([x22] : List Handle) (by assumption) (M.eF fq ⟨((M.cF fq 1 rfl).imp fun _ h => SlAt.of_blk (n := 1) (size := 2) h rfl (by decide)), trivial⟩)) (fun v_ w_ ⟨S124, e_, m⟩ => ⟨S124, e_, (M.lF fq m).sel [1, 0, 2, 3, 4, 5, 6, 7] rfl (by decide), fun b hb => M.kF fq m b hb⟩)) (fun w => CallsF.func Tryz.en53 rfl) (fun S124 v hp hin => ?_)
 replace hp := hp.symm; subst hp
 obtain ⟨_, _, hin⟩ := hin
 clear hin
 refine TW.done (fun w125 M => ?_)
 refine W.seq' ?_
 replace M := M.loseI 1
 obtain ⟨l2_, hl2_⟩ : ∃ q, ((rfree l1_ ([x22] : List Handle)).1) = q := ⟨_, rfl⟩
 have hAl2_ : SmallA l2_ := by rw [← hl2_]; first | exact SmallA.put (by assumption) (by first | omega | (simp [insL] <;> omega)) (by first | omega | (simp [insL] <;> omega)) (by first | omega | (simp [insL] <;> omega)) | exact SmallA.free (by assumption)
 replace M := M.rechunk 0 (c' := arenaC 107 112 S124 ab l2_) rfl (by rw [hl2_])
 refine W.drawn2 M [0, 1, 2, 3, 4, 5, 6, 7, 8, 9, 10, 11, 12, 13, 14, 15, 16, 17, 18, 19] [20, 21, 22, 23, 24] [5, 11, 18, 20, 22, 24] [] _ _ (sY (sY (sN (sN (sN (sY sE)))))) (fun _ h => h) Tryz.mixed (by kernel_rfl) ?_
 refine tP (Value.pointer (some ⟨b13, 1, none⟩)) rfl (fun w => sP) ?_
 refine tR kv3 rfl (fun A w M => (Step.load1 Tryz.sc23 rfl ((M.cell 2 rfl 1).trans rfl))) ?_
 refine tP (vI ↑i) rfl (fun w => (Step.move rfl)) ?_
 refine tP (vI ↑i) rfl (fun w => (Step.move rfl)) ?_
 refine tP (vI (↑(i + 1))) rfl (fun w => (Step.cast (congrArg (Value.int .i64) (show (↑i + 1 : Int) = ↑(i + 1) by omega)) (Step.add rfl rfl (wrap_i64 (by omega))))) ?_
 let Q : List Chunk := [arenaC 107 112 S124 ab l2_, bk b13 #[(vB n.leaf), kv3, dv4, vv5] 93, oH dv4 n.kids, oI vv5 n.vals, bk b1 #[(vI h.at_), (vI h.turn)] 68]
 refine TW.callX (ι := Value) (fun jx v_ => v_ = jx) (fun jx => oS jx (n.keys.take (Int.toNat ↑i) ++ n.keys.drop (Int.toNat (↑(i + 1)))) :: Q) (fun jx => [bF tb #[(vP ab), (vI r.at_), (vI r.turn), (vB fu), (vI ln)] 70]) rfl (by decide) rfl (fun jx => (sN (sY (sY (sN (sN (sY sE))))))) (fun jx r h => h) (fun A w M => have fq := M.frm [oS kv3 n.keys] (fl A :: Q) [3, 0, 1, 2, 4, 5, 6] rfl; Rets.mono (delete_str kv3 n.keys ↑i (↑(i + 1)) (by omega) (M.eF fq trivial)) (fun v_ w_ ⟨v144, e_, m⟩ => ⟨v144, e_, (M.lF fq m).sel [1, 0, 2, 3, 4, 5, 6] rfl (by decide), fun b hb => M.kF fq m b hb⟩)) (fun w => CallsF.func Tryz.en73 rfl) (fun v144 v hp hin => ?_)
 replace hp := hp.symm; subst hp
 obtain ⟨_, _, hin⟩ := hin
 have sl145 : IsSl v144 := SlAt.isSl (own_slAt (Mem.chunk hin 1 rfl).inv)
 have hle146 := SlAt.le' (own_slAt (Mem.chunk hin 1 rfl).inv)
 clear hin
 refine tP (Value.pointer (some ⟨b13, 3, none⟩)) rfl (fun w => sP) ?_
 refine tR vv5 rfl (fun A w M => (Step.load1 Tryz.sc91 rfl ((M.cell 2 rfl 3).trans rfl))) ?_
 refine tP (vI ↑i) rfl (fun w => (Step.move rfl)) ?_
 refine tP (vI ↑i) rfl (fun w => (Step.move rfl)) ?_
 refine tP (vI (↑(i + 1))) rfl (fun w => (Step.cast (congrArg (Value.int .i64) (show (↑i + 1 : Int) = ↑(i + 1) by omega)) (Step.add rfl rfl (wrap_i64 (by omega))))) ?_
 let Q : List Chunk := [oS v144 (n.keys.take (Int.toNat ↑i) ++ n.keys.drop (Int.toNat (↑(i + 1)))), arenaC 107 112 S124 ab l2_, bk b13 #[(vB n.leaf), kv3, dv4, vv5] 93, oH dv4 n.kids, bk b1 #[(vI h.at_), (vI h.turn)] 68]
 refine TW.callX (ι := Value) (fun jx v_ => v_ = jx) (fun jx => oI jx (n.vals.take (Int.toNat ↑i) ++ n.vals.drop (Int.toNat (↑(i + 1)))) :: Q) (fun jx => [bF tb #[(vP ab), (vI r.at_), (vI r.turn), (vB fu), (vI ln)] 70]) rfl (by decide) rfl (fun jx => (sN (sN (sY (sY (sN (sY sE))))))) (fun jx r h => h) (fun A w M => have fq := M.frm [oI vv5 n.vals] (fl A :: Q) [5, 0, 1, 2, 3, 4, 6] rfl; Rets.mono (delete_int vv5 n.vals ↑i (↑(i + 1)) (by omega) (M.eF fq trivial)) (fun v_ w_ ⟨v147, e_, m⟩ => ⟨v147, e_, (M.lF fq m).sel [1, 0, 2, 3, 4, 5, 6] rfl (by decide), fun b hb => M.kF fq m b hb⟩)) (fun w => CallsF.func Tryz.en74 rfl) (fun v147 v hp hin => ?_)
 replace hp := hp.symm; subst hp
 obtain ⟨_, _, hin⟩ := hin
 have sl148 : IsSl v147 := SlAt.isSl (own_slAt (Mem.chunk hin 1 rfl).inv)
 have hle149 := SlAt.le' (own_slAt (Mem.chunk hin 1 rfl).inv)
 clear hin
 refine tP (Value.pointer (some ⟨b13, 2, none⟩)) rfl (fun w => sP) ?_
 refine tR dv4 rfl (fun A w M => (Step.load1 Tryz.sc90 rfl ((M.cell 2 rfl 2).trans rfl))) ?_
 refine tP (vI ↑i) rfl (fun w => (Step.move rfl)) ?_
 refine tP (vI (↑(i + 1))) rfl (fun w => (Step.cast (congrArg (Value.int .i64) (show (↑i + 1 : Int) = ↑(i + 1) by omega)) (Step.add rfl rfl (wrap_i64 (by omega))))) ?_
 refine tP (vI ↑i) rfl (fun w => (Step.move rfl)) ?_
 refine tP (vI (↑(i + 2))) rfl (fun w => (Step.cast (congrArg (Value.int .i64) (show (↑i + 2 : Int) = ↑(i + 2) by omega)) (Step.add rfl rfl (wrap_i64 (by omega))))) ?_
 let Q : List Chunk := [oI v147 (n.vals.take (Int.toNat ↑i) ++ n.vals.drop (Int.toNat (↑(i + 1)))), oS v144 (n.keys.take (Int.toNat ↑i) ++ n.keys.drop (Int.toNat (↑(i + 1)))), arenaC 107 112 S124 ab l2_, bk b13 #[(vB n.leaf), kv3, dv4, vv5] 93, bk b1 #[(vI h.at_), (vI h.turn)] 68]
 refine TW.callX (ι := Value) (fun jx v_ => v_ = jx) (fun jx => oH jx (n.kids.take (Int.toNat (↑(i + 1))) ++ n.kids.drop (Int.toNat (↑(i + 2)))) :: Q) (fun jx => [bF tb #[(vP ab), (vI r.at_), (vI r.turn), (vB fu), (vI ln)] 70]) rfl (by decide) rfl (fun jx => (sN (sN (sN (sY (sY (sY sE))))))) (fun jx r h => h) (fun A w M => have fq := M.frm [oH dv4 n.kids] (fl A :: Q) [5, 0, 1, 2, 3, 4, 6] rfl; Rets.mono (delete_hdl dv4 n.kids (↑(i + 1)) (↑(i + 2)) (by omega) (M.eF fq trivial)) (fun v_ w_ ⟨v150, e_, m⟩ => ⟨v150, e_, (M.lF fq m).sel [1, 0, 2, 3, 4, 5, 6] rfl (by decide), fun b hb => M.kF fq m b hb⟩)) (fun w => CallsF.func Tryz.en104 rfl) (fun v150 v hp hin => ?_)
 replace hp := hp.symm; subst hp
 obtain ⟨_, _, hin⟩ := hin
 have sl151 : IsSl v150 := SlAt.isSl (own_slAt (Mem.chunk hin 1 rfl).inv)
 have hle152 := SlAt.le' (own_slAt (Mem.chunk hin 1 rfl).inv)
 clear hin
 refine tP (Value.pointer (some ⟨b13, 1, none⟩)) rfl (fun w => sP) ?_
 refine TW.turn _ _ (sY (sY (sY (sY (sN (sY sE)))))) (fun _ h => h) ?_
 refine TW.store (v := v144) (cs := [v144]) (c' := #[(vB n.leaf), v144, dv4, vv5]) 4 rfl rfl (by decide) rfl Tryz.el23.sized rfl rfl (IsSl.list sl145) rfl (Nat.le_of_ble_eq_true rfl) (cel_cons (IsSl.cel sl145) cel_nil) rfl rfl (sY (sY (sY (sY (sN (sY sE)))))) (fun r h => h) ?_
 refine tP (Value.pointer (some ⟨b13, 3, none⟩)) rfl (fun w => sP) ?_
 refine TW.store (v := v147) (cs := [v147]) (c' := #[(vB n.leaf), v144, dv4, v147]) 4 rfl rfl (by decide) rfl Tryz.el91.sized rfl rfl (IsSl.list sl148) rfl (Nat.le_of_ble_eq_true rfl) (cel_cons (IsSl.cel sl148) cel_nil) rfl rfl (sY (sY (sY (sY (sN (sY sE)))))) (fun r h => h) ?_
 refine tP (Value.pointer (some ⟨b13, 2, none⟩)) rfl (fun w => sP) ?_
 refine TW.store (v := v150) (cs := [v150]) (c' := #[(vB n.leaf), v144, v150, v147]) 4 rfl rfl (by decide) rfl Tryz.el90.sized rfl rfl (IsSl.list sl151) rfl (Nat.le_of_ble_eq_true rfl) (cel_cons (IsSl.cel sl151) cel_nil) rfl rfl (sY (sY (sY (sY (sN (sY sE)))))) (fun r h => h) ?_
 refine TW.done (fun w156 M => ?_)
 refine W.region rfl (wM (vP tb) (wS (Value.agg #[(vI h.at_), (vI h.turn)]) rfl (Step.loadN Tryz.ag68 rfl (M.blk 5 rfl) (Nat.le_of_ble_eq_true rfl) rfl) (wS (Value.agg #[(vB n.leaf), v144, v150, v147]) rfl (Step.loadN Tryz.ag93 rfl (M.blk 4 rfl) (Nat.le_of_ble_eq_true rfl) rfl) ?_)))
 have fq := M.frm [arenaC 107 112 S124 ab l2_] [oH v150 (n.kids.take (Int.toNat (↑(i + 1))) ++ n.kids.drop (Int.toNat (↑(i + 2)))), oI v147 (n.vals.take (Int.toNat ↑i) ++ n.vals.drop (Int.toNat (↑(i + 1)))), oS v144 (n.keys.take (Int.toNat ↑i) ++ n.keys.drop (Int.toNat (↑(i + 1)))), bk b13 #[(vB n.leaf), v144, v150, v147] 93, bk b1 #[(vI h.at_), (vI h.turn)] 68] [3, 0, 1, 2, 4, 5] rfl
 refine WL.callX rfl (tr_put tb ab r fu ln l2_ S124 h v144 v150 v147 (⟨n.leaf, n.keys.take (Int.toNat ↑i) ++ n.keys.drop (Int.toNat (↑(i + 1))), n.kids.take (Int.toNat (↑(i + 1))) ++ n.kids.drop (Int.toNat (↑(i + 2))), n.vals.take (Int.toNat ↑i) ++ n.vals.drop (Int.toNat (↑(i + 1)))⟩ : Nd) (by assumption) (by simp [insL] <;> omega) (by simp [insL] <;> omega) (by simp [insL] <;> omega) (M.eF fq ⟨(M.rF fq 0 rfl), ((M.cF fq 2 rfl).imp fun _ h => own_slAt h), ((M.cF fq 0 rfl).imp fun _ h => own_slAt h), ((M.cF fq 1 rfl).imp fun _ h => own_slAt h), trivial⟩)) (CallsF.func Tryz.en68 rfl) ?_
 rintro _ w158 ⟨S157, rfl, m⟩
 replace M := M.lF fq m
 clear m
 refine WL.nil ?_
 refine ⟨.inr rfl, undef, ?_, ?_⟩
 · exact ⟨rfl, Res.none⟩
 have e159 : (joinF l h i) = (rput l2_ h (⟨n.leaf, n.keys.take (Int.toNat ↑i) ++ n.keys.drop (Int.toNat (↑(i + 1))), n.kids.take (Int.toNat (↑(i + 1))) ++ n.kids.drop (Int.toNat (↑(i + 2))), n.vals.take (Int.toNat ↑i) ++ n.vals.drop (Int.toNat (↑(i + 1)))⟩ : Nd)).1 := by
  rw [joinF_eq hn hgd1_ hgd2_ hna_ hnb_]
  subst hl2_
  subst hl1_
  try simp only [drop_rest]
  have h2i_ : ((i : Int) + 2).toNat = i + 2 := by omega
  simp [List.eraseIdx_eq_take_drop_succ, h2i_, hx18, hx22]
 replace M := M.rechunk 0 (c' := arenaC 107 112 S157 ab (joinF l h i)) rfl (congrArg (fun z => arenaC 107 112 S157 ab z) e159.symm)
 refine ⟨S157, ?_, M.close [0] rfl (by decide) trivial⟩
 rfl
end Go.Proofs
set_option maxRecDepth 100000
namespace Go.Proofs
open Go Tp
theorem Tryz.en92 : Enters Tryz.prog 92 := fun _ _ => by kernel_rfl
theorem Tryz.en93 : Enters Tryz.prog 93 := fun _ _ => by kernel_rfl
theorem Tryz.en94 : Enters Tryz.prog 94 := fun _ _ => by kernel_rfl
theorem Tryz.sc33 : Scal Tryz.prog 33 := fun _ => by kernel_rfl
theorem tr_rich {G X : Nat → Prop} {w : World} (j : Int) (nb : Nat) (kv : Value) (dv : Value) (vv : Value) (n : Nd) (qb : Nat) (tb ab : Nat) (r : Handle) (fu : Bool) (ln : Int) (l : List RPlace) (S : Nat → Prop)  (hA : SmallA l) (M : Mem G X w [arenaC 107 112 S ab l] [bF nb #[(vB n.leaf), kv, dv, vv] 93, fS kv n.keys, fH dv n.kids, fI vv n.vals, bF qb #[(vP tb)] 33, bF tb #[(vP ab), (vI r.at_), (vI r.turn), (vB fu), (vI ln)] 70] w) : Rets Tryz.prog 92 #[(vI j), (vP nb), (vP qb)] w fun r w' => r = (vB (richF l n j)) ∧ Mem G X w [arenaC 107 112 S ab l] [] w' := by
 refine Rets.enter 26 _ Tryz.func92 rfl Tryz.ntmps92 Tryz.results92 (by simp) ?_
 have hle1 := SlAt.le' (M.rep 1 rfl)
 have hle2 := SlAt.le' (M.rep 2 rfl)
 have hle3 := SlAt.le' (M.rep 3 rfl)
 have sl4 : IsSl kv := SlAt.isSl (Mem.rep M 1 rfl)
 have sl5 : IsSl dv := SlAt.isSl (Mem.rep M 2 rfl)
 have sl6 : IsSl vv := SlAt.isSl (Mem.rep M 3 rfl)
 refine wR (wA (vB false) (WL.nil (W.seq' ?_)))
 rcases Bool.eq_false_or_eq_true (decide ((j : Int) ≥ (0 : Int))) with h7 | h7
 ·
  have h7p := of_decide_eq_true h7
  rcases Bool.eq_false_or_eq_true (decide ((j : Int) < (↑n.kids.length : Int))) with h8 | h8
  ·
   have h8p := of_decide_eq_true h8
   obtain ⟨cap10, hb9⟩ := SlAt.base (M.rep 2 rfl) (by omega)
   obtain ⟨x11, hx11⟩ := elem_of_lt (xs := n.kids) (i := j.toNat) (by omega)
   have hgd1_ : n.kids.getD j.toNat hdZero = x11 := by rw [List.getD_eq_getElem?_getD, hx11]; rfl
   refine W.drawn M [0, 1, 2, 3, 4, 5, 6, 7, 8, 9, 10, 11, 12, 13, 14, 15, 16, 17, 18, 19, 20, 21] [16] [] _ _ (sY sE) (fun _ h => h) Tryz.mixed (by kernel_rfl) ?_
   refine tP (vI j) rfl (fun w => (Step.move rfl)) ?_
   refine tP (vB true) rfl (fun w => (Step.cast (congrArg Value.bool h7) sP)) ?_
   refine tP (vB true) rfl (fun w => (Step.move rfl)) ?_
   refine tP (vI j) rfl (fun w => (Step.move rfl)) ?_
   refine tP (Value.pointer (some ⟨nb, 2, none⟩)) rfl (fun w => sP) ?_
   refine tR dv rfl (fun A w M => (Step.load1 Tryz.sc90 rfl ((cell_blk (M.rep 0 rfl) 2).trans rfl))) ?_
   refine tR (vI ↑n.kids.length) rfl (fun A w M => (Step.lenSl Tryz.un90 rfl (M.rep 2 rfl))) ?_
   refine tP (vB true) rfl (fun w => (Step.cast (congrArg Value.bool h8) sP)) ?_
   refine tP (vB true) rfl (fun w => (Step.pick (t := true) rfl rfl)) ?_
   refine tP (vB true) rfl (fun w => (Step.move rfl)) ?_
   refine tR (vP tb) rfl (fun A w M => (Step.load1 Tryz.sc33 rfl ((cell_blk (M.rep 4 rfl) 0).trans rfl))) ?_
   refine tP (Value.pointer (some ⟨nb, 2, none⟩)) rfl (fun w => sP) ?_
   refine tR dv rfl (fun A w M => (Step.load1 Tryz.sc90 rfl ((cell_blk (M.rep 0 rfl) 2).trans rfl))) ?_
   refine tP (vI j) rfl (fun w => (Step.move rfl)) ?_
   refine tP (vQ dv j.toNat 2) rfl (fun w => (sX j.toNat Tryz.un90 Tryz.el68 rfl rfl hb9)) ?_
   refine tR (Value.agg #[(vI x11.at_), (vI x11.turn)]) rfl (fun A w M => (Step.loadEN (k := 0) (cs' := [(vI x11.at_), (vI x11.turn)]) Tryz.ag68 (flat_ec (M.rep 2 rfl) hx11 handleE_len) (by decide) rfl rfl rfl)) ?_
   obtain ⟨na_, hna_⟩ : ∃ n, (rget l x11).1 = n := ⟨_, rfl⟩
   refine TW.callX (ι := Value × Value × Value) (fun jx v_ => v_ = (Value.agg #[(vB na_.leaf), jx.1, jx.2.1, jx.2.2])) (fun jx => [oS jx.1 na_.keys, oH jx.2.1 na_.kids, oI jx.2.2 na_.vals, arenaC 107 112 S ab l]) (fun jx => [bF nb #[(vB n.leaf), kv, dv, vv] 93, fS kv n.keys, fH dv n.kids, fI vv n.vals, bF qb #[(vP tb)] 33, bF tb #[(vP ab), (vI r.at_), (vI r.turn), (vB fu), (vI ln)] 70]) rfl (by decide) rfl (fun jx => (sN (sN (sN (sY sE))))) (fun jx r h => h) (fun A w M => have fq := M.frm [arenaC 107 112 S ab l] [fl A] [1, 0] rfl; Rets.mono (tr_node tb ab r fu ln l S x11 (by assumption) na_ hna_ (M.eF fq ⟨(M.rF fq 5 rfl), trivial⟩)) (fun v_ w_ ⟨kv18, dv19, vv20, e_, m⟩ => ⟨(kv18, dv19, vv20), e_, (M.lF fq m).sel [4, 1, 2, 3, 0] rfl (by decide), fun b hb => M.kF fq m b hb⟩)) (fun w => CallsF.func Tryz.en52 rfl) (fun jx v hp hin => ?_)
   obtain ⟨kv18, dv19, vv20⟩ := jx
   replace hp := hp.symm; subst hp
   obtain ⟨_, _, hin⟩ := hin
   have sl21 : IsSl kv18 := SlAt.isSl (own_slAt (Mem.chunk hin 1 rfl).inv)
   have hle22 := SlAt.le' (own_slAt (Mem.chunk hin 1 rfl).inv)
   have hsh23 := (own_slAt (Mem.chunk hin 1 rfl).inv).shp
   have sl24 : IsSl dv19 := SlAt.isSl (own_slAt (Mem.chunk hin 2 rfl).inv)
   have hle25 := SlAt.le' (own_slAt (Mem.chunk hin 2 rfl).inv)
   have hsh26 := (own_slAt (Mem.chunk hin 2 rfl).inv).shp
   have sl27 : IsSl vv20 := SlAt.isSl (own_slAt (Mem.chunk hin 3 rfl).inv)
   have hle28 := SlAt.le' (own_slAt (Mem.chunk hin 3 rfl).inv)
   have hsh29 := (own_slAt (Mem.chunk hin 3 rfl).inv).shp
   clear hin
   refine tP kv18 rfl (fun w => sP) ?_
   refine tP (vI ↑na_.keys.length) rfl (fun w => (Step.lenP Tryz.un23 rfl hsh23)) ?_
   refine tP (vB (decide ((↑na_.keys.length : Int) > (2 : Int)))) rfl (fun w => sP) ?_
   refine tP (vB (decide ((↑na_.keys.length : Int) > (2 : Int)))) rfl (fun w => (Step.pick (t := true) rfl rfl)) ?_
   refine tP (vB (decide ((↑na_.keys.length : Int) > (2 : Int)))) rfl (fun w => (Step.assign rfl)) ?_
   refine TW.done (fun w30 M => ?_)
   refine W.ret ?_
   refine ⟨.inl rfl, (vB (decide ((↑na_.keys.length : Int) > (2 : Int)))), ?_, ?_⟩
   · exact ⟨rfl, (Res.r1 (show RV _ _ _ (.tmp 4) (vB (decide ((↑na_.keys.length : Int) > (2 : Int)))) from by exact rfl))⟩
   refine ⟨?_, M.close [3] rfl (by decide) trivial⟩
   refine congrArg Value.bool ?_
   unfold richF; rw [hgd1_, hna_]; simp [h7p, h8p, hx11]; try omega
  ·
   have h8p := of_decide_eq_false h8
   refine W.drawn M [0, 1, 2, 3, 4, 5, 6, 7, 8, 9, 10, 11, 12, 13, 14, 15, 16, 17, 18, 19, 20, 21] [16] [] _ _ (sY sE) (fun _ h => h) Tryz.mixed (by kernel_rfl) ?_
   refine tP (vI j) rfl (fun w => (Step.move rfl)) ?_
   refine tP (vB true) rfl (fun w => (Step.cast (congrArg Value.bool h7) sP)) ?_
   refine tP (vB true) rfl (fun w => (Step.move rfl)) ?_
   refine tP (vI j) rfl (fun w => (Step.move rfl)) ?_
   refine tP (Value.pointer (some ⟨nb, 2, none⟩)) rfl (fun w => sP) ?_
   refine tR dv rfl (fun A w M => (Step.load1 Tryz.sc90 rfl ((cell_blk (M.rep 0 rfl) 2).trans rfl))) ?_
   refine tR (vI ↑n.kids.length) rfl (fun A w M => (Step.lenSl Tryz.un90 rfl (M.rep 2 rfl))) ?_
   refine tP (vB false) rfl (fun w => (Step.cast (congrArg Value.bool h8) sP)) ?_
   refine tP (vB false) rfl (fun w => (Step.pick (t := true) rfl rfl)) ?_
   refine tP (vB false) rfl (fun w => (Step.move rfl)) ?_
   refine TW.skip rfl rfl ?_
   refine TW.skip rfl rfl ?_
   refine TW.skip rfl rfl ?_
   refine TW.skip rfl rfl ?_
   refine TW.skip rfl rfl ?_
   refine TW.skip rfl rfl ?_
   refine TW.skip rfl rfl ?_
   refine TW.skip rfl rfl ?_
   refine TW.skip rfl rfl ?_
   refine TW.skip rfl rfl ?_
   refine tP (vB false) rfl (fun w => (Step.pick (t := false) rfl rfl)) ?_
   refine tP (vB false) rfl (fun w => (Step.assign rfl)) ?_
   refine TW.done (fun w31 M => ?_)
   refine W.ret ?_
   refine ⟨.inl rfl, (vB false), ?_, ?_⟩
   · exact ⟨rfl, (Res.r1 (show RV _ _ _ (.tmp 4) (vB false) from by exact rfl))⟩
   refine ⟨?_, M.close [0] rfl (by decide) trivial⟩
   refine congrArg Value.bool ?_
   unfold richF; simp [h7p, h8p]; try omega
 ·
  have h7p := of_decide_eq_false h7
  refine W.drawn M [0, 1, 2, 3, 4, 5, 6, 7, 8, 9, 10, 11, 12, 13, 14, 15, 16, 17, 18, 19, 20, 21] [16] [] _ _ (sY sE) (fun _ h => h) Tryz.mixed (by kernel_rfl) ?_
  refine tP (vI j) rfl (fun w => (Step.move rfl)) ?_
  refine tP (vB false) rfl (fun w => (Step.cast (congrArg Value.bool h7) sP)) ?_
  refine tP (vB false) rfl (fun w => (Step.move rfl)) ?_
  refine TW.skip rfl rfl ?_
  refine TW.skip rfl rfl ?_
  refine TW.skip rfl rfl ?_
  refine TW.skip rfl rfl ?_
  refine TW.skip rfl rfl ?_
  refine tP (vB false) rfl (fun w => (Step.pick (t := false) rfl rfl)) ?_
  refine tP (vB false) rfl (fun w => (Step.move rfl)) ?_
  refine TW.skip rfl rfl ?_
  refine TW.skip rfl rfl ?_
  refine TW.skip rfl rfl ?_
  refine TW.skip rfl rfl ?_
  refine TW.skip rfl rfl ?_
  refine TW.skip rfl rfl ?_
  refine TW.skip rfl rfl ?_
  refine TW.skip rfl rfl ?_
  refine TW.skip rfl rfl ?_
  refine TW.skip rfl rfl ?_
  refine tP (vB false) rfl (fun w => (Step.pick (t := false) rfl rfl)) ?_
  refine tP (vB false) rfl (fun w => (Step.assign rfl)) ?_
  refine TW.done (fun w32 M => ?_)
  refine W.ret ?_
  refine ⟨.inl rfl, (vB false), ?_, ?_⟩
  · exact ⟨rfl, (Res.r1 (show RV _ _ _ (.tmp 4) (vB false) from by exact rfl))⟩
  refine ⟨?_, M.close [0] rfl (by decide) trivial⟩
  refine congrArg Value.bool ?_
  unfold richF; simp [h7p]; try omega
set_option maxHeartbeats 1000000 in
theorem tr_mend {G X : Nat → Prop} {w : World} (tb ab : Nat) (r : Handle) (fu : Bool) (ln : Int) (l : List RPlace) (S : Nat → Prop) (h : Handle) (i : Nat)  (hO : mendOk l h i) (M : Mem G X w [arenaC 107 112 S ab l] [bF tb #[(vP ab), (vI r.at_), (vI r.turn), (vB fu), (vI ln)] 70] w) : Rets Tryz.prog 76 #[(vP tb), (Value.agg #[(vI h.at_), (vI h.turn)]), (vI ↑i)] w fun r w' => ∃ (S' : Nat → Prop), r = undef ∧ Mem G X w [arenaC 107 112 S' ab (mendF l h i)] [] w' := by
 refine Rets.enter 53 _ Tryz.func76 rfl Tryz.ntmps76 Tryz.results76 (by simp) ?_
 obtain ⟨n, hn⟩ : ∃ n, (rget l h).1 = n := ⟨_, rfl⟩
 obtain ⟨hA, hty, hik_, hk2_⟩ := mendOk_n hO hn
 obtain ⟨ht1, ht2, ht3⟩ := hty
 refine wR ?_
 refine WL.box (v := (vP tb)) (c := #[(vP tb)]) M rfl rfl rfl (fun b1 w2 hb1 M => ?_)
 refine WL.box (v := (Value.agg #[(vI h.at_), (vI h.turn)])) (c := #[(vI h.at_), (vI h.turn)]) M rfl rfl rfl (fun b3 w4 hb3 M => ?_)
 refine WL.nil (wR (wS (vP tb) rfl (Step.load1 Tryz.sc33 rfl ((M.cell 1 rfl 0).trans rfl)) (wS (Value.agg #[(vI h.at_), (vI h.turn)]) rfl (Step.loadN Tryz.ag68 rfl (M.blk 0 rfl) (Nat.le_of_ble_eq_true rfl) rfl) ?_)))
 have fq := M.frm [arenaC 107 112 S ab l] [bk b3 #[(vI h.at_), (vI h.turn)] 68, bk b1 #[(vP tb)] 33] [2, 0, 1] rfl
 refine WL.callX rfl (tr_node tb ab r fu ln l S h (by assumption) n hn (M.eF fq ⟨(M.rF fq 0 rfl), trivial⟩)) (CallsF.func Tryz.en52 rfl) ?_
 rintro _ w8 ⟨kv5, dv6, vv7, rfl, m⟩
 replace M := M.lF fq m
 clear m
 have sl9 : IsSl kv5 := SlAt.isSl (own_slAt (Mem.chunk M 1 rfl).inv)
 have hle10 := SlAt.le' (own_slAt (Mem.chunk M 1 rfl).inv)
 have sl11 : IsSl dv6 := SlAt.isSl (own_slAt (Mem.chunk M 2 rfl).inv)
 have hle12 := SlAt.le' (own_slAt (Mem.chunk M 2 rfl).inv)
 have sl13 : IsSl vv7 := SlAt.isSl (own_slAt (Mem.chunk M 3 rfl).inv)
 have hle14 := SlAt.le' (own_slAt (Mem.chunk M 3 rfl).inv)
 refine WL.alloc (c := #[(vB false), vZ, vZ, vZ]) M rfl Tryz.el93.zero rfl (fun b15 w16 hb15 M => ?_)
 refine WL.store (v := (Value.agg #[(vB n.leaf), kv5, dv6, vv7])) (cs := [(vB n.leaf), kv5, dv6, vv7]) (c' := #[(vB n.leaf), kv5, dv6, vv7]) M 0 rfl rfl Tryz.el93.sized rfl rfl rfl rfl (Nat.le_of_ble_eq_true rfl) (cel_cons rfl (cel_cons (IsSl.cel sl9) (cel_cons (IsSl.cel sl11) (cel_cons (IsSl.cel sl13) cel_nil)))) rfl rfl (fun w17 M => ?_)
 refine WL.nil (W.seq' (W.seq' ?_))
 obtain ⟨cap19, hb18⟩ := SlAt.base (own_slAt (M.chunk 3 rfl).inv) (by omega)
 obtain ⟨x20, hx20⟩ := elem_of_lt (xs := n.kids) (i := i) (by omega)
 have hgd1_ : n.kids.getD i hdZero = x20 := by rw [List.getD_eq_getElem?_getD, hx20]; rfl
 refine W.drawn M [0, 1, 2, 3, 4, 5, 6, 7, 8, 9] [6] [] _ _ (sY (sY (sY (sY (sY (sY (sY sE))))))) (fun _ h => h) Tryz.mixed (by kernel_rfl) ?_
 refine tR (vP tb) rfl (fun A w M => (Step.load1 Tryz.sc33 rfl ((M.cell 7 rfl 0).trans rfl))) ?_
 refine tP (Value.pointer (some ⟨b15, 2, none⟩)) rfl (fun w => sP) ?_
 refine tR dv6 rfl (fun A w M => (Step.load1 Tryz.sc90 rfl ((M.cell 1 rfl 2).trans rfl))) ?_
 refine tP (vI ↑i) rfl (fun w => (Step.move rfl)) ?_
 refine tP (vQ dv6 i 2) rfl (fun w => (sX i Tryz.un90 Tryz.el68 rfl rfl hb18)) ?_
 refine tR (Value.agg #[(vI x20.at_), (vI x20.turn)]) rfl (fun A w M => (Step.loadEN (k := 0) (cs' := [(vI x20.at_), (vI x20.turn)]) Tryz.ag68 (flat_ec (own_slAt (M.chunk 4 rfl).inv) hx20 handleE_len) (by decide) rfl rfl rfl)) ?_
 obtain ⟨na_, hna_⟩ : ∃ n, (rget l x20).1 = n := ⟨_, rfl⟩
 let Q : List Chunk := [bk b15 #[(vB n.leaf), kv5, dv6, vv7] 93, oS kv5 n.keys, oH dv6 n.kids, oI vv7 n.vals, bk b3 #[(vI h.at_), (vI h.turn)] 68, bk b1 #[(vP tb)] 33]
 refine TW.callX (ι := Value × Value × Value) (fun jx v_ => v_ = (Value.agg #[(vB na_.leaf), jx.1, jx.2.1, jx.2.2])) (fun jx => [oS jx.1 na_.keys, oH jx.2.1 na_.kids, oI jx.2.2 na_.vals, bk b15 #[(vB n.leaf), kv5, dv6, vv7] 93, arenaC 107 112 S ab l, oS kv5 n.keys, oH dv6 n.kids, oI vv7 n.vals, bk b3 #[(vI h.at_), (vI h.turn)] 68, bk b1 #[(vP tb)] 33]) (fun jx => [bF tb #[(vP ab), (vI r.at_), (vI r.turn), (vB fu), (vI ln)] 70]) rfl (by decide) rfl (fun jx => (sN (sN (sN (sY (sY (sY (sY (sY (sY (sY sE))))))))))) (fun jx r h => h) (fun A w M => have fq := M.frm [arenaC 107 112 S ab l] (fl A :: Q) [2, 0, 1, 3, 4, 5, 6, 7] rfl; Rets.mono (tr_node tb ab r fu ln l S x20 (by assumption) na_ hna_ (M.eF fq ⟨(M.rF fq 0 rfl), trivial⟩)) (fun v_ w_ ⟨kv27, dv28, vv29, e_, m⟩ => ⟨(kv27, dv28, vv29), e_, (M.lF fq m).sel [4, 1, 2, 3, 5, 0, 6, 7, 8, 9, 10] rfl (by decide), fun b hb => M.kF fq m b hb⟩)) (fun w => CallsF.func Tryz.en52 rfl) (fun jx v hp hin => ?_)
 obtain ⟨kv27, dv28, vv29⟩ := jx
 replace hp := hp.symm; subst hp
 obtain ⟨_, _, hin⟩ := hin
 have sl30 : IsSl kv27 := SlAt.isSl (own_slAt (Mem.chunk hin 1 rfl).inv)
 have hle31 := SlAt.le' (own_slAt (Mem.chunk hin 1 rfl).inv)
 have hsh32 := (own_slAt (Mem.chunk hin 1 rfl).inv).shp
 have sl33 : IsSl dv28 := SlAt.isSl (own_slAt (Mem.chunk hin 2 rfl).inv)
 have hle34 := SlAt.le' (own_slAt (Mem.chunk hin 2 rfl).inv)
 have hsh35 := (own_slAt (Mem.chunk hin 2 rfl).inv).shp
 have sl36 : IsSl vv29 := SlAt.isSl (own_slAt (Mem.chunk hin 3 rfl).inv)
 have hle37 := SlAt.le' (own_slAt (Mem.chunk hin 3 rfl).inv)
 have hsh38 := (own_slAt (Mem.chunk hin 3 rfl).inv).shp
 clear hin
 refine tP kv27 rfl (fun w => sP) ?_
 refine tP (vI ↑na_.keys.length) rfl (fun w => (Step.lenP Tryz.un23 rfl hsh32)) ?_
 refine tP (vB (decide ((↑na_.keys.length : Int) ≥ (2 : Int)))) rfl (fun w => sP) ?_
 refine TW.done (fun w39 M => ?_)
 refine W.cond (t := decide ((↑na_.keys.length : Int) ≥ (2 : Int))) rfl (fun h40 => ?_) (fun h40 => ?_)
 ·
  have h40p := of_decide_eq_true h40
  refine W.ret ?_
  refine ⟨.inl rfl, undef, ?_, ?_⟩
  · exact ⟨rfl, Res.none⟩
  have e41 : (mendF l h i) = l := by
   rw [mend_keep hn hgd1_ hna_ (by omega)]
  replace M := M.rechunk 4 (c' := arenaC 107 112 S ab (mendF l h i)) rfl (congrArg (fun z => arenaC 107 112 S ab z) e41.symm)
  refine ⟨S, ?_, M.close [4] rfl (by decide) trivial⟩
  rfl
 ·
  have h40p := of_decide_eq_false h40
  obtain ⟨hp1_, hp2_⟩ := mendOk_pair hO hn hgd1_ hna_ (by omega)
  refine W.skip (wR (wP (Value.func (.func 92) #[] #[(vP b15), (vP b1)]) (wA (Value.func (.func 92) #[] #[(vP b15), (vP b1)]) (WL.nil (W.block ?_)))))
  refine W.seq' ?_
  replace M := M.loseI 2
  replace M := M.loseI 1
  replace M := M.loseI 0
  refine W.region rfl (wM (Value.func (.func 92) #[] #[(vP b15), (vP b1)]) (wM (vI ↑i) (wS (vI ((↑i : Int) - 1)) rfl (Step.sub rfl rfl (wrap_i64 (by omega))) ?_)))
  have fq := M.frm [arenaC 107 112 S ab l] [bk b15 #[(vB n.leaf), kv5, dv6, vv7] 93, oS kv5 n.keys, oH dv6 n.kids, oI vv7 n.vals, bk b3 #[(vI h.at_), (vI h.turn)] 68, bk b1 #[(vP tb)] 33] [1, 0, 2, 3, 4, 5, 6] rfl
  refine WL.callX rfl (tr_rich ((↑i : Int) - 1) b15 kv5 dv6 vv7 n b1 tb ab r fu ln l S (by assumption) (M.eF fq ⟨(M.cF fq 0 rfl), ((M.cF fq 1 rfl).imp fun _ h => own_slAt h), ((M.cF fq 2 rfl).imp fun _ h => own_slAt h), ((M.cF fq 3 rfl).imp fun _ h => own_slAt h), (M.cF fq 5 rfl), (M.rF fq 0 rfl), trivial⟩)) (CallsF.value Tryz.en92 rfl rfl rfl) ?_
  rintro _ w42 ⟨rfl, m⟩
  replace M := M.lF fq m
  clear m
  refine wA (vB (richF l n ((↑i : Int) - 1))) (WL.nil ?_)
  refine W.cond (t := richF l n ((↑i : Int) - 1)) rfl (fun h43 => ?_) (fun h43 => ?_)
  ·
   obtain ⟨hr1_, hr2_⟩ := rich_low h43
   have hi1_ : 0 < i := by omega
   have hO1_ := hp1_ hi1_
   refine W.region rfl (wS (vP tb) rfl (Step.load1 Tryz.sc33 rfl ((M.cell 6 rfl 0).trans rfl)) (wS (Value.agg #[(vI h.at_), (vI h.turn)]) rfl (Step.loadN Tryz.ag68 rfl (M.blk 5 rfl) (Nat.le_of_ble_eq_true rfl) rfl) (wM (vI ↑i) (wS (vI (↑(i - 1))) rfl (Step.cast (congrArg (Value.int .i64) (show ((↑i : Int) - 1 : Int) = ↑(i - 1) by omega)) (Step.sub rfl rfl (wrap_i64 (by omega)))) ?_))))
   have fq := M.frm [arenaC 107 112 S ab l] [bk b15 #[(vB n.leaf), kv5, dv6, vv7] 93, oS kv5 n.keys, oH dv6 n.kids, oI vv7 n.vals, bk b3 #[(vI h.at_), (vI h.turn)] 68, bk b1 #[(vP tb)] 33] [0, 1, 2, 3, 4, 5, 6] rfl
   refine WL.callX rfl (tr_turn tb ab r fu ln l S h (i - 1) false (by assumption) (M.eF fq ⟨(M.rF fq 0 rfl), trivial⟩)) (CallsF.func Tryz.en93 rfl) ?_
   rintro _ w45 ⟨S44, rfl, m⟩
   replace M := M.lF fq m
   clear m
   refine WL.nil ?_
   refine ⟨.inr rfl, undef, ?_, ?_⟩
   · exact ⟨rfl, Res.none⟩
   have e46 : (mendF l h i) = (turnF l h (i - 1) false) := by
    rw [mend_go hn hgd1_ hna_ (by omega)]
    simp [hx20, h40p, h43] <;> (intro h_; exfalso; omega)
   replace M := M.rechunk 0 (c' := arenaC 107 112 S44 ab (mendF l h i)) rfl (congrArg (fun z => arenaC 107 112 S44 ab z) e46.symm)
   refine ⟨S44, ?_, M.close [0] rfl (by decide) trivial⟩
   rfl
  ·
   refine wR (wM (Value.func (.func 92) #[] #[(vP b15), (vP b1)]) (wM (vI ↑i) (wS (vI (↑i + 1)) rfl (Step.add rfl rfl (wrap_i64 (by omega))) ?_)))
   have fq := M.frm [arenaC 107 112 S ab l] [bk b15 #[(vB n.leaf), kv5, dv6, vv7] 93, oS kv5 n.keys, oH dv6 n.kids, oI vv7 n.vals, bk b3 #[(vI h.at_), (vI h.turn)] 68, bk b1 #[(vP tb)] 33] [0, 1, 2, 3, 4, 5, 6] rfl
   refine WL.callX rfl (tr_rich (↑i + 1) b15 kv5 dv6 vv7 n b1 tb ab r fu ln l S (by assumption) (M.eF fq ⟨(M.cF fq 0 rfl), ((M.cF fq 1 rfl).imp fun _ h => own_slAt h), ((M.cF fq 2 rfl).imp fun _ h => own_slAt h), ((M.cF fq 3 rfl).imp fun _ h => own_slAt h), (M.cF fq 5 rfl), (M.rF fq 0 rfl), trivial⟩)) (CallsF.value Tryz.en92 rfl rfl rfl) ?_
   rintro _ w47 ⟨rfl, m⟩
   replace M := M.lF fq m
   clear m
   refine wA (vB (richF l n (↑i + 1))) (WL.nil ?_)
   refine W.cond (t := richF l n (↑i + 1)) rfl (fun h48 => ?_) (fun h48 => ?_)
   ·
    obtain ⟨hr1_, hr2_⟩ := rich_low h48
    have hO1_ := hp2_ (by omega)
    replace M := M.loseI 4
    replace M := M.loseI 3
    replace M := M.loseI 2
    replace M := M.loseI 1
    refine W.region rfl (wS (vP tb) rfl (Step.load1 Tryz.sc33 rfl ((M.cell 2 rfl 0).trans rfl)) (wS (Value.agg #[(vI h.at_), (vI h.turn)]) rfl (Step.loadN Tryz.ag68 rfl (M.blk 1 rfl) (Nat.le_of_ble_eq_true rfl) rfl) (wM (vI ↑i) ?_)))
    have fq := M.frm [arenaC 107 112 S ab l] [bk b3 #[(vI h.at_), (vI h.turn)] 68, bk b1 #[(vP tb)] 33] [0, 1, 2] rfl
    refine WL.callX rfl (tr_turn tb ab r fu ln l S h i true (by assumption) (M.eF fq ⟨(M.rF fq 0 rfl), trivial⟩)) (CallsF.func Tryz.en93 rfl) ?_
    rintro _ w50 ⟨S49, rfl, m⟩
    replace M := M.lF fq m
    clear m
    refine WL.nil ?_
    refine ⟨.inr rfl, undef, ?_, ?_⟩
    · exact ⟨rfl, Res.none⟩
    have e51 : (mendF l h i) = (turnF l h i true) := by
     rw [mend_go hn hgd1_ hna_ (by omega)]
     simp [hx20, h40p, h43, h48] <;> (intro h_; exfalso; omega)
    replace M := M.rechunk 0 (c' := arenaC 107 112 S49 ab (mendF l h i)) rfl (congrArg (fun z => arenaC 107 112 S49 ab z) e51.symm)
    refine ⟨S49, ?_, M.close [0] rfl (by decide) trivial⟩
    rfl
   ·
    refine wR (wM (vI ↑i) (wP (vB (decide ((↑i : Int) > (0 : Int)))) (wA (vB (decide ((↑i : Int) > (0 : Int)))) (WL.nil ?_))))
    refine W.cond (t := decide ((↑i : Int) > (0 : Int))) rfl (fun h52 => ?_) (fun h52 => ?_)
    ·
     have h52p := of_decide_eq_true h52
     have hi1_ : 0 < i := by omega
     have hO1_ := hp1_ hi1_
     replace M := M.loseI 4
     replace M := M.loseI 3
     replace M := M.loseI 2
     replace M := M.loseI 1
     refine W.region rfl (wS (vP tb) rfl (Step.load1 Tryz.sc33 rfl ((M.cell 2 rfl 0).trans rfl)) (wS (Value.agg #[(vI h.at_), (vI h.turn)]) rfl (Step.loadN Tryz.ag68 rfl (M.blk 1 rfl) (Nat.le_of_ble_eq_true rfl) rfl) (wM (vI ↑i) (wS (vI (↑(i - 1))) rfl (Step.cast (congrArg (Value.int .i64) (show ((↑i : Int) - 1 : Int) = ↑(i - 1) by omega)) (Step.sub rfl rfl (wrap_i64 (by omega)))) ?_))))
     have fq := M.frm [arenaC 107 112 S ab l] [bk b3 #[(vI h.at_), (vI h.turn)] 68, bk b1 #[(vP tb)] 33] [0, 1, 2] rfl
     refine WL.callX rfl (tr_join tb ab r fu ln l S h (i - 1) (by assumption) (M.eF fq ⟨(M.rF fq 0 rfl), trivial⟩)) (CallsF.func Tryz.en94 rfl) ?_
     rintro _ w54 ⟨S53, rfl, m⟩
     replace M := M.lF fq m
     clear m
     refine WL.nil ?_
     refine ⟨.inr rfl, undef, ?_, ?_⟩
     · exact ⟨rfl, Res.none⟩
     have e55 : (mendF l h i) = (joinF l h (i - 1)) := by
      rw [mend_go hn hgd1_ hna_ (by omega)]
      simp [hx20, h40p, h43, h48, h52p] <;> (intro h_; exfalso; omega)
     replace M := M.rechunk 0 (c' := arenaC 107 112 S53 ab (mendF l h i)) rfl (congrArg (fun z => arenaC 107 112 S53 ab z) e55.symm)
     refine ⟨S53, ?_, M.close [0] rfl (by decide) trivial⟩
     rfl
    ·
     have h52p := of_decide_eq_false h52
     have hO1_ := hp2_ (by omega)
     replace M := M.loseI 4
     replace M := M.loseI 3
     replace M := M.loseI 2
     replace M := M.loseI 1
     refine W.region rfl (wS (vP tb) rfl (Step.load1 Tryz.sc33 rfl ((M.cell 2 rfl 0).trans rfl)) (wS (Value.agg #[(vI h.at_), (vI h.turn)]) rfl (Step.loadN Tryz.ag68 rfl (M.blk 1 rfl) (Nat.le_of_ble_eq_true rfl) rfl) (wM (vI ↑i) ?_)))
     have fq := M.frm [arenaC 107 112 S ab l] [bk b3 #[(vI h.at_), (vI h.turn)] 68, bk b1 #[(vP tb)] 33] [0, 1, 2] rfl
     refine WL.callX rfl (tr_join tb ab r fu ln l S h i (by assumption) (M.eF fq ⟨(M.rF fq 0 rfl), trivial⟩)) (CallsF.func Tryz.en94 rfl) ?_
     rintro _ w57 ⟨S56, rfl, m⟩
     replace M := M.lF fq m
     clear m
     refine WL.nil ?_
     refine ⟨.inr rfl, undef, ?_, ?_⟩
     · exact ⟨rfl, Res.none⟩
     have e58 : (mendF l h i) = (joinF l h i) := by
      rw [mend_go hn hgd1_ hna_ (by omega)]
      simp [hx20, h40p, h43, h48, h52p] <;> (intro h_; exfalso; omega)
     replace M := M.rechunk 0 (c' := arenaC 107 112 S56 ab (mendF l h i)) rfl (congrArg (fun z => arenaC 107 112 S56 ab z) e58.symm)
     refine ⟨S56, ?_, M.close [0] rfl (by decide) trivial⟩
     rfl
end Go.Proofs
set_option maxRecDepth 100000
namespace Go.Proofs
open Go Tp
theorem Tryz.en51 : Enters Tryz.prog 51 := fun _ _ => by kernel_rfl
theorem Tryz.en76 : Enters Tryz.prog 76 := fun _ _ => by kernel_rfl
set_option maxHeartbeats 1000000 in
theorem tr_remove : ∀ (d : Nat) {G X : Nat → Prop} {w : World} (tb ab : Nat) (r : Handle) (fu : Bool) (ln : Int) (l : List RPlace) (S : Nat → Prop) (h : Handle) (k : ByteArray)  (hO : remOk d l h k) (M : Mem G X w [arenaC 107 112 S ab l] [bF tb #[(vP ab), (vI r.at_), (vI r.turn), (vB fu), (vI ln)] 70] w), Rets Tryz.prog 51 #[(vP tb), (Value.agg #[(vI h.at_), (vI h.turn)]), (vS k)] w fun r w' => ∃ (S' : Nat → Prop), r = undef ∧ Mem G X w [arenaC 107 112 S' ab (remF d l h k)] [] w' := by
 intro d
 induction d using Nat.strongRecOn
 rename_i d ih
 intro G X w tb ab r fu ln l S h k hO M
 refine Rets.enter 83 _ Tryz.func51 rfl Tryz.ntmps51 Tryz.results51 (by simp) ?_
 obtain ⟨n, hn⟩ : ∃ n, (rget l h).1 = n := ⟨_, rfl⟩
 obtain ⟨hA, hty, hvl, hup⟩ := remOk_node hO hn
 obtain ⟨ht1, ht2, ht3⟩ := hty
 have hbi_ := bsI_le n.keys k
 refine wR ?_
 refine WL.box (v := (Value.agg #[(vI h.at_), (vI h.turn)])) (c := #[(vI h.at_), (vI h.turn)]) M rfl rfl rfl (fun b1 w2 hb1 M => ?_)
 refine WL.nil (wR (wM (vP tb) (wS (Value.agg #[(vI h.at_), (vI h.turn)]) rfl (Step.loadN Tryz.ag68 rfl (M.blk 0 rfl) (Nat.le_of_ble_eq_true rfl) rfl) ?_)))
 have fq := M.frm [arenaC 107 112 S ab l] [bk b1 #[(vI h.at_), (vI h.turn)] 68] [1, 0] rfl
 refine WL.callX rfl (tr_node tb ab r fu ln l S h (by assumption) n hn (M.eF fq ⟨(M.rF fq 0 rfl), trivial⟩)) (CallsF.func Tryz.en52 rfl) ?_
 rintro _ w6 ⟨kv3, dv4, vv5, rfl, m⟩
 replace M := M.lF fq m
 clear m
 have sl7 : IsSl kv3 := SlAt.isSl (own_slAt (Mem.chunk M 1 rfl).inv)
 have hle8 := SlAt.le' (own_slAt (Mem.chunk M 1 rfl).inv)
 have sl9 : IsSl dv4 := SlAt.isSl (own_slAt (Mem.chunk M 2 rfl).inv)
 have hle10 := SlAt.le' (own_slAt (Mem.chunk M 2 rfl).inv)
 have sl11 : IsSl vv5 := SlAt.isSl (own_slAt (Mem.chunk M 3 rfl).inv)
 have hle12 := SlAt.le' (own_slAt (Mem.chunk M 3 rfl).inv)
 refine WL.alloc (c := #[(vB false), vZ, vZ, vZ]) M rfl Tryz.el93.zero rfl (fun b13 w14 hb13 M => ?_)
 refine WL.store (v := (Value.agg #[(vB n.leaf), kv3, dv4, vv5])) (cs := [(vB n.leaf), kv3, dv4, vv5]) (c' := #[(vB n.leaf), kv3, dv4, vv5]) M 0 rfl rfl Tryz.el93.sized rfl rfl rfl rfl (Nat.le_of_ble_eq_true rfl) (cel_cons rfl (cel_cons (IsSl.cel sl7) (cel_cons (IsSl.cel sl9) (cel_cons (IsSl.cel sl11) cel_nil)))) rfl rfl (fun w15 M => ?_)
 refine WL.nil (wR (wP (Value.pointer (some ⟨b13, 1, none⟩)) (wS kv3 rfl (Step.load1 Tryz.sc23 rfl ((M.cell 0 rfl 1).trans rfl)) (wM (vS k) ?_))))
 refine WL.callX rfl (bs_str kv3 n.keys k (by omega) (by assumption) (M.enterW0 ⟨((M.wideC0 2 rfl).imp fun _ h => own_slAt h), trivial⟩)) (CallsF.func Tryz.en67 rfl) ?_
 rintro _ w16 ⟨rfl, m⟩
 replace M := M.leaveW0 m
 clear m
 refine wM (Value.tuple #[(vI (↑(bsI n.keys k))), (vB (bsF n.keys k))]) (wP (vI (↑(bsI n.keys k))) (wP (vB (bsF n.keys k)) (wA (vI (↑(bsI n.keys k))) (wA (vB (bsF n.keys k)) (WL.nil ?_)))))
 refine W.seq' (W.block (wR (wM (vB (bsF n.keys k)) (wM (vB (bsF n.keys k)) ?_))))
 rcases Bool.eq_false_or_eq_true (bsF n.keys k) with h17 | h17
 ·
  have hbl_ := bsF_lt h17
  rw [h17]
  refine wP (vP b13) (wS (vB n.leaf) rfl (Step.load1 Tryz.sc4 rfl ((M.cell 0 rfl 0).trans rfl)) (wS (vB n.leaf) rfl (Step.pick (t := true) rfl rfl) (wA (vB n.leaf) (WL.nil ?_))))
  refine W.cond (t := n.leaf) rfl (fun h18 => ?_) (fun h18 => ?_)
  ·
   have hlf_ : n.leaf = true := h18
   refine W.seq' ?_
   refine W.drawn2 M [0, 1, 2, 3, 4, 5, 6, 7, 8, 9, 10, 11, 12] [13, 14, 15] [5, 11, 13, 15] [] _ _ (sY (sY (sN (sY (sN (sY sE)))))) (fun _ h => h) Tryz.mixed (by kernel_rfl) ?_
   refine tP (Value.pointer (some ⟨b13, 1, none⟩)) rfl (fun w => sP) ?_
   refine tR kv3 rfl (fun A w M => (Step.load1 Tryz.sc23 rfl ((M.cell 1 rfl 1).trans rfl))) ?_
   refine tP (vI (↑(bsI n.keys k))) rfl (fun w => (Step.move rfl)) ?_
   refine tP (vI (↑(bsI n.keys k))) rfl (fun w => (Step.move rfl)) ?_
   refine tP (vI (↑((bsI n.keys k) + 1))) rfl (fun w => (Step.cast (congrArg (Value.int .i64) (show (↑(bsI n.keys k) + 1 : Int) = ↑((bsI n.keys k) + 1) by omega)) (Step.add rfl rfl (wrap_i64 (by omega))))) ?_
   let Q : List Chunk := [bk b13 #[(vB n.leaf), kv3, dv4, vv5] 93, arenaC 107 112 S ab l, oH dv4 n.kids, oI vv5 n.vals, bk b1 #[(vI h.at_), (vI h.turn)] 68]
   refine TW.callX (ι := Value) (fun jx v_ => v_ = jx) (fun jx => oS jx (n.keys.take (Int.toNat (↑(bsI n.keys k))) ++ n.keys.drop (Int.toNat (↑((bsI n.keys k) + 1)))) :: Q) (fun jx => [bF tb #[(vP ab), (vI r.at_), (vI r.turn), (vB fu), (vI ln)] 70]) rfl (by decide) rfl (fun jx => (sN (sY (sY (sY (sN (sY sE))))))) (fun jx r h => h) (fun A w M => have fq := M.frm [oS kv3 n.keys] (fl A :: Q) [3, 0, 1, 2, 4, 5, 6] rfl; Rets.mono (delete_str kv3 n.keys (↑(bsI n.keys k)) (↑((bsI n.keys k) + 1)) (by omega) (M.eF fq trivial)) (fun v_ w_ ⟨v31, e_, m⟩ => ⟨v31, e_, (M.lF fq m).sel [1, 0, 2, 3, 4, 5, 6] rfl (by decide), fun b hb => M.kF fq m b hb⟩)) (fun w => CallsF.func Tryz.en73 rfl) (fun v31 v hp hin => ?_)
   replace hp := hp.symm; subst hp
   obtain ⟨_, _, hin⟩ := hin
   have sl32 : IsSl v31 := SlAt.isSl (own_slAt (Mem.chunk hin 1 rfl).inv)
   have hle33 := SlAt.le' (own_slAt (Mem.chunk hin 1 rfl).inv)
   clear hin
   refine tP (Value.pointer (some ⟨b13, 3, none⟩)) rfl (fun w => sP) ?_
   refine tR vv5 rfl (fun A w M => (Step.load1 Tryz.sc91 rfl ((M.cell 1 rfl 3).trans rfl))) ?_
   refine tP (vI (↑(bsI n.keys k))) rfl (fun w => (Step.move rfl)) ?_
   refine tP (vI (↑(bsI n.keys k))) rfl (fun w => (Step.move rfl)) ?_
   refine tP (vI (↑((bsI n.keys k) + 1))) rfl (fun w => (Step.cast (congrArg (Value.int .i64) (show (↑(bsI n.keys k) + 1 : Int) = ↑((bsI n.keys k) + 1) by omega)) (Step.add rfl rfl (wrap_i64 (by omega))))) ?_
   let Q : List Chunk := [oS v31 (n.keys.take (Int.toNat (↑(bsI n.keys k))) ++ n.keys.drop (Int.toNat (↑((bsI n.keys k) + 1)))), bk b13 #[(vB n.leaf), kv3, dv4, vv5] 93, arenaC 107 112 S ab l, oH dv4 n.kids, bk b1 #[(vI h.at_), (vI h.turn)] 68]
   refine TW.callX (ι := Value) (fun jx v_ => v_ = jx) (fun jx => oI jx (n.vals.take (Int.toNat (↑(bsI n.keys k))) ++ n.vals.drop (Int.toNat (↑((bsI n.keys k) + 1)))) :: Q) (fun jx => [bF tb #[(vP ab), (vI r.at_), (vI r.turn), (vB fu), (vI ln)] 70]) rfl (by decide) rfl (fun jx => (sN (sN (sY (sY (sY (sY sE))))))) (fun jx r h => h) (fun A w M => have fq := M.frm [oI vv5 n.vals] (fl A :: Q) [5, 0, 1, 2, 3, 4, 6] rfl; Rets.mono (delete_int vv5 n.vals (↑(bsI n.keys k)) (↑((bsI n.keys k) + 1)) (by omega) (M.eF fq trivial)) (fun v_ w_ ⟨v34, e_, m⟩ => ⟨v34, e_, (M.lF fq m).sel [1, 0, 2, 3, 4, 5, 6] rfl (by decide), fun b hb => M.kF fq m b hb⟩)) (fun w => CallsF.func Tryz.en74 rfl) (fun v34 v hp hin => ?_)
   replace hp := hp.symm; subst hp
   obtain ⟨_, _, hin⟩ := hin
   have sl35 : IsSl v34 := SlAt.isSl (own_slAt (Mem.chunk hin 1 rfl).inv)
   have hle36 := SlAt.le' (own_slAt (Mem.chunk hin 1 rfl).inv)
   clear hin
   refine tP (Value.pointer (some ⟨b13, 1, none⟩)) rfl (fun w => sP) ?_
   refine TW.turn _ _ (sY (sY (sN (sY (sY (sY sE)))))) (fun _ h => h) ?_
   refine TW.store (v := v31) (cs := [v31]) (c' := #[(vB n.leaf), v31, dv4, vv5]) 2 rfl rfl (by decide) rfl Tryz.el23.sized rfl rfl (IsSl.list sl32) rfl (Nat.le_of_ble_eq_true rfl) (cel_cons (IsSl.cel sl32) cel_nil) rfl rfl (sY (sY (sN (sY (sY (sY sE)))))) (fun r h => h) ?_
   refine tP (Value.pointer (some ⟨b13, 3, none⟩)) rfl (fun w => sP) ?_
   refine TW.store (v := v34) (cs := [v34]) (c' := #[(vB n.leaf), v31, dv4, v34]) 2 rfl rfl (by decide) rfl Tryz.el91.sized rfl rfl (IsSl.list sl35) rfl (Nat.le_of_ble_eq_true rfl) (cel_cons (IsSl.cel sl35) cel_nil) rfl rfl (sY (sY (sN (sY (sY (sY sE)))))) (fun r h => h) ?_
   refine TW.done (fun w39 M => ?_)
   refine wR (wM (vP tb) (wS (Value.agg #[(vI h.at_), (vI h.turn)]) rfl (Step.loadN Tryz.ag68 rfl (M.blk 5 rfl) (Nat.le_of_ble_eq_true rfl) rfl) (wS (Value.agg #[(vB n.leaf), v31, dv4, v34]) rfl (Step.loadN Tryz.ag93 rfl (M.blk 2 rfl) (Nat.le_of_ble_eq_true rfl) rfl) ?_)))
   have fq := M.frm [arenaC 107 112 S ab l] [oI v34 (n.vals.take (Int.toNat (↑(bsI n.keys k))) ++ n.vals.drop (Int.toNat (↑((bsI n.keys k) + 1)))), oS v31 (n.keys.take (Int.toNat (↑(bsI n.keys k))) ++ n.keys.drop (Int.toNat (↑((bsI n.keys k) + 1)))), bk b13 #[(vB n.leaf), v31, dv4, v34] 93, oH dv4 n.kids, bk b1 #[(vI h.at_), (vI h.turn)] 68] [3, 0, 1, 2, 4, 5] rfl
   refine WL.callX rfl (tr_put tb ab r fu ln l S h v31 dv4 v34 (⟨n.leaf, n.keys.take (Int.toNat (↑(bsI n.keys k))) ++ n.keys.drop (Int.toNat (↑((bsI n.keys k) + 1))), n.kids, n.vals.take (Int.toNat (↑(bsI n.keys k))) ++ n.vals.drop (Int.toNat (↑((bsI n.keys k) + 1)))⟩ : Nd) (by assumption) (by simp [insL] <;> omega) (by simp [insL] <;> omega) (by simp [insL] <;> omega) (M.eF fq ⟨(M.rF fq 0 rfl), ((M.cF fq 1 rfl).imp fun _ h => own_slAt h), ((M.cF fq 3 rfl).imp fun _ h => own_slAt h), ((M.cF fq 0 rfl).imp fun _ h => own_slAt h), trivial⟩)) (CallsF.func Tryz.en68 rfl) ?_
   rintro _ w41 ⟨S40, rfl, m⟩
   replace M := M.lF fq m
   clear m
   refine WL.nil ?_
   refine W.ret ?_
   refine ⟨.inl rfl, undef, ?_, ?_⟩
   · exact ⟨rfl, Res.none⟩
   have e42 : (remF d l h k) = (rput l h (⟨n.leaf, n.keys.take (Int.toNat (↑(bsI n.keys k))) ++ n.keys.drop (Int.toNat (↑((bsI n.keys k) + 1))), n.kids, n.vals.take (Int.toNat (↑(bsI n.keys k))) ++ n.vals.drop (Int.toNat (↑((bsI n.keys k) + 1)))⟩ : Nd)).1 := by
    rw [remF_leaf hn h17 hlf_]
    simp [List.eraseIdx_eq_take_drop_succ]
   replace M := M.rechunk 0 (c' := arenaC 107 112 S40 ab (remF d l h k)) rfl (congrArg (fun z => arenaC 107 112 S40 ab z) e42.symm)
   refine ⟨S40, ?_, M.close [0] rfl (by decide) trivial⟩
   rfl
  ·
   have hlf_ : n.leaf = false := h18
   obtain ⟨e, rfl, hkl_, hO2⟩ := remOk_hit hO hn h17 hlf_
   refine wR (wM (vB true) (wA (vB true) (WL.nil ?_)))
   refine W.cond (t := true) rfl (fun _ => ?_) (fun h => by cases h)
   refine wR (wM (vP tb) (wP (Value.pointer (some ⟨b13, 2, none⟩)) (wS dv4 rfl (Step.load1 Tryz.sc90 rfl ((M.cell 0 rfl 2).trans rfl)) (wM (vI (↑(bsI n.keys k))) ?_))))
   obtain ⟨cap44, hb43⟩ := SlAt.base (own_slAt (M.chunk 3 rfl).inv) (by omega)
   obtain ⟨x45, hx45⟩ := elem_of_lt (xs := n.kids) (i := bsI n.keys k) (by omega)
   have hgd_ : n.kids.getD (bsI n.keys k) hdZero = x45 := by rw [List.getD_eq_getElem?_getD, hx45]; rfl
   obtain ⟨hLo, hO3, hM⟩ := hO2 _ hgd_
   refine wS (vQ dv4 (bsI n.keys k) 2) rfl (sX (bsI n.keys k) Tryz.un90 Tryz.el68 rfl rfl hb43) (wS (Value.agg #[(vI x45.at_), (vI x45.turn)]) rfl (Step.loadEN (k := 0) (cs' := [(vI x45.at_), (vI x45.turn)]) Tryz.ag68 (flat_ec (own_slAt (M.chunk 3 rfl).inv) hx45 handleE_len) (by decide) rfl rfl rfl) ?_)
   have fq := M.frm [arenaC 107 112 S ab l] [bk b13 #[(vB n.leaf), kv3, dv4, vv5] 93, oS kv3 n.keys, oH dv4 n.kids, oI vv5 n.vals, bk b1 #[(vI h.at_), (vI h.turn)] 68] [1, 0, 2, 3, 4, 5] rfl
   refine WL.callX rfl (tr_last e tb ab r fu ln l S x45 (by assumption) (by assumption) (M.eF fq ⟨(M.rF fq 0 rfl), trivial⟩)) (CallsF.func Tryz.en75 rfl) ?_
   rintro _ w46 ⟨rfl, m⟩
   replace M := M.lF fq m
   clear m
   refine WL.alloc (c := #[(vS sZ), (vI 0)]) M rfl Tryz.el55.zero rfl (fun b47 w48 hb47 M => ?_)
   refine WL.store (v := (Value.agg #[(vS ((lastF e l x45).key)), (vI ((lastF e l x45).val))])) (cs := [(vS ((lastF e l x45).key)), (vI ((lastF e l x45).val))]) (c' := #[(vS ((lastF e l x45).key)), (vI ((lastF e l x45).val))]) M 0 rfl rfl Tryz.el55.sized rfl rfl rfl rfl (Nat.le_of_ble_eq_true rfl) (cel_cons rfl (cel_cons rfl cel_nil)) rfl rfl (fun w49 M => ?_)
   refine WL.nil (W.seq' ?_)
   obtain ⟨cap51, hb50⟩ := SlAt.base (own_slAt (M.chunk 3 rfl).inv) (by omega)
   obtain ⟨x52, hx52⟩ := elem_of_lt (xs := n.keys) (i := bsI n.keys k) (by omega)
   obtain ⟨pre53, post54, hcs55, hpre56, hback57⟩ := flat_open strE_len hx52
   replace M := M.rechunk 3 (c' := own 9 1 kv3 n.keys.length (pre53 ++ ([(vS x52)] ++ post54))) rfl (by show own 9 1 kv3 n.keys.length (n.keys.flatMap strE) = _; rw [hcs55]; rfl)
   obtain ⟨cap59, hb58⟩ := SlAt.base (own_slAt (M.chunk 5 rfl).inv) (by omega)
   obtain ⟨x60, hx60⟩ := elem_of_lt (xs := n.vals) (i := bsI n.keys k) (by omega)
   obtain ⟨pre61, post62, hcs63, hpre64, hback65⟩ := flat_open intE_len hx60
   replace M := M.rechunk 5 (c' := own 3 1 vv5 n.vals.length (pre61 ++ ([(vI x60)] ++ post62))) rfl (by show own 3 1 vv5 n.vals.length (n.vals.flatMap intE) = _; rw [hcs63]; rfl)
   refine W.drawn M [0, 1, 2, 3, 4, 5, 6, 7, 8, 9, 10, 11, 12, 13] [11, 13] [] _ _ (sY (sY (sY (sN (sY (sN (sY sE))))))) (fun _ h => h) Tryz.mixed (by kernel_rfl) ?_
   refine tP (Value.pointer (some ⟨b13, 1, none⟩)) rfl (fun w => sP) ?_
   refine tR kv3 rfl (fun A w M => (Step.load1 Tryz.sc23 rfl ((M.cell 3 rfl 1).trans rfl))) ?_
   refine tP (vI (↑(bsI n.keys k))) rfl (fun w => (Step.move rfl)) ?_
   refine tP (Value.pointer (some ⟨b13, 3, none⟩)) rfl (fun w => sP) ?_
   refine tR vv5 rfl (fun A w M => (Step.load1 Tryz.sc91 rfl ((M.cell 3 rfl 3).trans rfl))) ?_
   refine tP (vI (↑(bsI n.keys k))) rfl (fun w => (Step.move rfl)) ?_
   refine tP (vP b47) rfl (fun w => sP) ?_
   refine tR (vS ((lastF e l x45).key)) rfl (fun A w M => (Step.load1 Tryz.sc9 rfl ((M.cell 1 rfl 0).trans rfl))) ?_
   refine tP (Value.pointer (some ⟨b47, 1, none⟩)) rfl (fun w => sP) ?_
   refine tR (vI ((lastF e l x45).val)) rfl (fun A w M => (Step.load1 Tryz.sc3 rfl ((M.cell 1 rfl 1).trans rfl))) ?_
   refine tP (vQ kv3 (bsI n.keys k) 1) rfl (fun w => (sX (bsI n.keys k) Tryz.un23 Tryz.el9 rfl rfl hb50)) ?_
   refine TW.act (c' := own 9 1 kv3 n.keys.length (pre53 ++ ([(vS ((lastF e l x45).key))] ++ post54))) 3 rfl rfl (by decide) rfl (sY (sY (sY (sN (sY (sN (sY sE))))))) (fun r h => h) (fun A w M => M.storeAt (cells := [(vS x52)]) (cells' := [(vS ((lastF e l x45).key))]) (new := [(vS ((lastF e l x45).key))]) (k := 0) 4 rfl hpre56 Tryz.el9.sized rfl rfl rfl (cel_cons rfl cel_nil) (by first | omega | (simp only [List.length_set, List.length_append, List.length_cons, List.length_nil]; omega)) (Nat.le_of_ble_eq_true rfl) rfl rfl) ?_
   refine tP (vQ vv5 (bsI n.keys k) 1) rfl (fun w => (sX (bsI n.keys k) Tryz.un91 Tryz.el3 rfl rfl hb58)) ?_
   refine TW.act (c' := own 3 1 vv5 n.vals.length (pre61 ++ ([(vI ((lastF e l x45).val))] ++ post62))) 5 rfl rfl (by decide) rfl (sY (sY (sY (sN (sY (sN (sY sE))))))) (fun r h => h) (fun A w M => M.storeAt (cells := [(vI x60)]) (cells' := [(vI ((lastF e l x45).val))]) (new := [(vI ((lastF e l x45).val))]) (k := 0) 6 rfl hpre64 Tryz.el3.sized rfl rfl rfl (cel_cons rfl cel_nil) (by first | omega | (simp only [List.length_set, List.length_append, List.length_cons, List.length_nil]; omega)) (Nat.le_of_ble_eq_true rfl) rfl rfl) ?_
   refine TW.done (fun w66 M => ?_)
   refine wR (wM (vP tb) (wS (Value.agg #[(vI h.at_), (vI h.turn)]) rfl (Step.loadN Tryz.ag68 rfl (M.blk 6 rfl) (Nat.le_of_ble_eq_true rfl) rfl) (wS (Value.agg #[(vB n.leaf), kv3, dv4, vv5]) rfl (Step.loadN Tryz.ag93 rfl (M.blk 2 rfl) (Nat.le_of_ble_eq_true rfl) rfl) ?_)))
   replace M := M.rechunk 3 (c' := own 9 1 kv3 (n.keys.length) ((n.keys.set (bsI n.keys k) ((lastF e l x45).key)).flatMap strE)) rfl (by rw [← hback57]; rfl)
   replace M := M.rechunk 3 (c' := oS kv3 (n.keys.set (bsI n.keys k) ((lastF e l x45).key))) rfl (by show _ = own 9 1 kv3 ((n.keys.set (bsI n.keys k) ((lastF e l x45).key)).length) ((n.keys.set (bsI n.keys k) ((lastF e l x45).key)).flatMap strE); rw [List.length_set])
   replace M := M.rechunk 5 (c' := own 3 1 vv5 (n.vals.length) ((n.vals.set (bsI n.keys k) ((lastF e l x45).val)).flatMap intE)) rfl (by rw [← hback65]; rfl)
   replace M := M.rechunk 5 (c' := oI vv5 (n.vals.set (bsI n.keys k) ((lastF e l x45).val))) rfl (by show _ = own 3 1 vv5 ((n.vals.set (bsI n.keys k) ((lastF e l x45).val)).length) ((n.vals.set (bsI n.keys k) ((lastF e l x45).val)).flatMap intE); rw [List.length_set])
   have fq := M.frm [arenaC 107 112 S ab l] [bk b47 #[(vS ((lastF e l x45).key)), (vI ((lastF e l x45).val))] 55, bk b13 #[(vB n.leaf), kv3, dv4, vv5] 93, oS kv3 (n.keys.set (bsI n.keys k) ((lastF e l x45).key)), oH dv4 n.kids, oI vv5 (n.vals.set (bsI n.keys k) ((lastF e l x45).val)), bk b1 #[(vI h.at_), (vI h.turn)] 68] [1, 0, 2, 3, 4, 5, 6] rfl
   refine WL.callX rfl (tr_put tb ab r fu ln l S h kv3 dv4 vv5 (⟨n.leaf, n.keys.set (bsI n.keys k) ((lastF e l x45).key), n.kids, n.vals.set (bsI n.keys k) ((lastF e l x45).val)⟩ : Nd) (by assumption) (by simp [insL] <;> omega) (by simp [insL] <;> omega) (by simp [insL] <;> omega) (M.eF fq ⟨(M.rF fq 0 rfl), ((M.cF fq 2 rfl).imp fun _ h => own_slAt h), ((M.cF fq 3 rfl).imp fun _ h => own_slAt h), ((M.cF fq 4 rfl).imp fun _ h => own_slAt h), trivial⟩)) (CallsF.func Tryz.en68 rfl) ?_
   rintro _ w68 ⟨S67, rfl, m⟩
   replace M := M.lF fq m
   clear m
   refine WL.nil ?_
   obtain ⟨l1_, hl1_⟩ : ∃ q, ((rput l h (⟨n.leaf, n.keys.set (bsI n.keys k) ((lastF e l x45).key), n.kids, n.vals.set (bsI n.keys k) ((lastF e l x45).val)⟩ : Nd)).1) = q := ⟨_, rfl⟩
   have hAl1_ : SmallA l1_ := by rw [← hl1_]; first | exact SmallA.put (by assumption) (by first | omega | (simp [insL] <;> omega)) (by first | omega | (simp [insL] <;> omega)) (by first | omega | (simp [insL] <;> omega)) | exact SmallA.free (by assumption)
   replace M := M.rechunk 0 (c' := arenaC 107 112 S67 ab l1_) rfl (by rw [hl1_])
   rw [hl1_] at hO3 hM
   refine W.region rfl (wP (vP b47) (wS (vS ((lastF e l x45).key)) rfl (Step.load1 Tryz.sc9 rfl ((M.cell 1 rfl 0).trans rfl)) (wA (vS ((lastF e l x45).key)) (WL.nil (W.seq' ?_)))))
   replace M := M.loseI 1
   refine W.region rfl (wM (vP tb) (wP (Value.pointer (some ⟨b13, 2, none⟩)) (wS dv4 rfl (Step.load1 Tryz.sc90 rfl ((M.cell 1 rfl 2).trans rfl)) (wM (vI (↑(bsI n.keys k))) (wS (vQ dv4 (bsI n.keys k) 2) rfl (sX (bsI n.keys k) Tryz.un90 Tryz.el68 rfl rfl hb43) ?_)))))
   refine wS (Value.agg #[(vI x45.at_), (vI x45.turn)]) rfl (Step.loadEN (k := 0) (cs' := [(vI x45.at_), (vI x45.turn)]) Tryz.ag68 (flat_ec (own_slAt (M.chunk 3 rfl).inv) hx45 handleE_len) (by decide) rfl rfl rfl) (wM (vS ((lastF e l x45).key)) ?_)
   have fq := M.frm [arenaC 107 112 S67 ab l1_] [bk b13 #[(vB n.leaf), kv3, dv4, vv5] 93, oS kv3 (n.keys.set (bsI n.keys k) ((lastF e l x45).key)), oH dv4 n.kids, oI vv5 (n.vals.set (bsI n.keys k) ((lastF e l x45).val)), bk b1 #[(vI h.at_), (vI h.turn)] 68] [0, 1, 2, 3, 4, 5] rfl
   refine WL.callX rfl (ih e (by omega) tb ab r fu ln l1_ S67 x45 ((lastF e l x45).key) (by assumption) (M.eF fq ⟨(M.rF fq 0 rfl), trivial⟩)) (CallsF.func Tryz.en51 rfl) ?_
   rintro _ w70 ⟨S69, rfl, m⟩
   replace M := M.lF fq m
   clear m
   refine WL.nil ?_
   replace M := M.loseI 4
   replace M := M.loseI 3
   replace M := M.loseI 2
   replace M := M.loseI 1
   refine W.region rfl (wM (vP tb) (wS (Value.agg #[(vI h.at_), (vI h.turn)]) rfl (Step.loadN Tryz.ag68 rfl (M.blk 1 rfl) (Nat.le_of_ble_eq_true rfl) rfl) (wM (vI (↑(bsI n.keys k))) ?_)))
   have fq := M.frm [arenaC 107 112 S69 ab (remF e l1_ x45 ((lastF e l x45).key))] [bk b1 #[(vI h.at_), (vI h.turn)] 68] [0, 1] rfl
   refine WL.callX rfl (tr_mend tb ab r fu ln (remF e l1_ x45 ((lastF e l x45).key)) S69 h (bsI n.keys k) (by assumption) (M.eF fq ⟨(M.rF fq 0 rfl), trivial⟩)) (CallsF.func Tryz.en76 rfl) ?_
   rintro _ w72 ⟨S71, rfl, m⟩
   replace M := M.lF fq m
   clear m
   refine WL.nil ?_
   refine ⟨.inr rfl, undef, ?_, ?_⟩
   · exact ⟨rfl, Res.none⟩
   have e73 : (remF (e + 1) l h k) = (mendF (remF e l1_ x45 ((lastF e l x45).key)) h (bsI n.keys k)) := by
    rw [remF_hit hn h17 hlf_ hgd_]
    rw [hl1_]
   replace M := M.rechunk 0 (c' := arenaC 107 112 S71 ab (remF (e + 1) l h k)) rfl (congrArg (fun z => arenaC 107 112 S71 ab z) e73.symm)
   refine ⟨S71, ?_, M.close [0] rfl (by decide) trivial⟩
   rfl
 ·
  obtain ⟨e, rfl, hkl_, hO2⟩ := remOk_miss hO hn h17
  rw [h17]
  refine WL.pass rfl ?_
  refine WL.pass rfl ?_
  refine wS (vB false) rfl (Step.pick (t := false) rfl rfl) (wA (vB false) (WL.nil ?_))
  refine W.cond (t := false) rfl (fun h => by cases h) (fun _ => ?_)
  refine wR (wM (vB false) (wA (vB false) (WL.nil ?_)))
  refine W.cond (t := false) rfl (fun h => by cases h) (fun _ => ?_)
  refine W.skip (wR (wM (vP tb) (wP (Value.pointer (some ⟨b13, 2, none⟩)) (wS dv4 rfl (Step.load1 Tryz.sc90 rfl ((M.cell 0 rfl 2).trans rfl)) (wM (vI (↑(bsI n.keys k))) ?_)))))
  obtain ⟨cap75, hb74⟩ := SlAt.base (own_slAt (M.chunk 3 rfl).inv) (by omega)
  obtain ⟨x76, hx76⟩ := elem_of_lt (xs := n.kids) (i := bsI n.keys k) (by omega)
  have hgd_ : n.kids.getD (bsI n.keys k) hdZero = x76 := by rw [List.getD_eq_getElem?_getD, hx76]; rfl
  obtain ⟨hO3, hM⟩ := hO2 _ hgd_
  refine wS (vQ dv4 (bsI n.keys k) 2) rfl (sX (bsI n.keys k) Tryz.un90 Tryz.el68 rfl rfl hb74) (wS (Value.agg #[(vI x76.at_), (vI x76.turn)]) rfl (Step.loadEN (k := 0) (cs' := [(vI x76.at_), (vI x76.turn)]) Tryz.ag68 (flat_ec (own_slAt (M.chunk 3 rfl).inv) hx76 handleE_len) (by decide) rfl rfl rfl) (wM (vS k) ?_))
  have fq := M.frm [arenaC 107 112 S ab l] [bk b13 #[(vB n.leaf), kv3, dv4, vv5] 93, oS kv3 n.keys, oH dv4 n.kids, oI vv5 n.vals, bk b1 #[(vI h.at_), (vI h.turn)] 68] [1, 0, 2, 3, 4, 5] rfl
  refine WL.callX rfl (ih e (by omega) tb ab r fu ln l S x76 k (by assumption) (M.eF fq ⟨(M.rF fq 0 rfl), trivial⟩)) (CallsF.func Tryz.en51 rfl) ?_
  rintro _ w78 ⟨S77, rfl, m⟩
  replace M := M.lF fq m
  clear m
  refine WL.nil ?_
  replace M := M.loseI 4
  replace M := M.loseI 3
  replace M := M.loseI 2
  replace M := M.loseI 1
  refine W.region rfl (wM (vP tb) (wS (Value.agg #[(vI h.at_), (vI h.turn)]) rfl (Step.loadN Tryz.ag68 rfl (M.blk 1 rfl) (Nat.le_of_ble_eq_true rfl) rfl) (wM (vI (↑(bsI n.keys k))) ?_)))
  have fq := M.frm [arenaC 107 112 S77 ab (remF e l x76 k)] [bk b1 #[(vI h.at_), (vI h.turn)] 68] [0, 1] rfl
  refine WL.callX rfl (tr_mend tb ab r fu ln (remF e l x76 k) S77 h (bsI n.keys k) (by assumption) (M.eF fq ⟨(M.rF fq 0 rfl), trivial⟩)) (CallsF.func Tryz.en76 rfl) ?_
  rintro _ w80 ⟨S79, rfl, m⟩
  replace M := M.lF fq m
  clear m
  refine WL.nil ?_
  refine ⟨.inr rfl, undef, ?_, ?_⟩
  · exact ⟨rfl, Res.none⟩
  have e81 : (remF (e + 1) l h k) = (mendF (remF e l x76 k) h (bsI n.keys k)) := by
   rw [remF_miss hn h17 hgd_]
  replace M := M.rechunk 0 (c' := arenaC 107 112 S79 ab (remF (e + 1) l h k)) rfl (congrArg (fun z => arenaC 107 112 S79 ab z) e81.symm)
  refine ⟨S79, ?_, M.close [0] rfl (by decide) trivial⟩
  rfl
end Go.Proofs
