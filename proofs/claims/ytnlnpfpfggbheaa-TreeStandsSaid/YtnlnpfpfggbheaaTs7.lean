/- Proved here: lemmas and walks on which the claim stands (part 7 of 7). No condition. -/
import Derived.Test.YtnlnpfpfggbheaaTs6
set_option linter.all false
set_option maxRecDepth 100000
namespace Go.Proofs
open Go Tp
theorem Try.un5 : Und Try.prog 5 (.int .u8) := by unfold Und; kernel_rfl
theorem Try.un121 : Und Try.prog 121 (.slice 5) := by unfold Und; kernel_rfl
theorem Try.en30 : Enters Try.prog 30 := fun _ _ => by kernel_rfl
theorem Try.en33 : Enters Try.prog 33 := fun _ _ => by kernel_rfl
theorem Try.en42 : Enters Try.prog 42 := fun _ _ => by kernel_rfl
theorem l_works {G : Nat → Prop} {w : World}    (M : Mem G (fun _ => False) w [] [] w) : Rets Try.prog 29 #[] w fun r w' => r = (vB true) ∧ Mem G (fun _ => False) w [] [] w' := by
 refine Rets.enter 122 _ Try.func29 rfl Try.ntmps29 Try.results29 (by simp) ?_
 refine wR ?_
 refine wS (vB false) rfl (Step.assign rfl) ?_
 refine WL.nil ?_
 refine wR ?_
 refine WL.callX rfl (T_new  (M.enterW0 trivial)) (CallsF.func Try.en30 rfl) ?_
 rintro _ w3 ⟨tb1, S2, rfl, m⟩
 replace M := M.leaveW0 m
 clear m
 refine wS (vP tb1) rfl (Step.assign rfl) ?_
 refine WL.nil ?_
 refine W.seq' ?_
 refine wR ?_
 refine wS (vI 0) rfl (Step.assign rfl) ?_
 refine WL.nil ?_
 refine W.block ?_
 replace M := M.rechunk 0 (c' := tT S2 tb1 (rowW 0) 0) rfl (rfl)
 refine W.loop (fun kk ρ w' => ∃ (i_ : Nat) (S_ : Nat → Prop), ((i_ ≤ 5) ∧ kk = 5 - i_) ∧ ρ.has [(0, (vB false)), (1, (vP tb1)), (2, (vI ↑i_))] ∧ Mem G (fun _ => False) w [tT S_ tb1 (rowW i_) i_] []  w') _ ⟨0, _, ⟨(Nat.zero_le _), rfl⟩, ⟨rfl, rfl, rfl, rfl, rfl⟩, M⟩ ?_
 rintro _ ρ5 w4 ⟨i_, S_, ⟨hi6, rfl⟩, hρ, M⟩
 obtain ⟨ρ5, rfl⟩ := hρ.know
 clear hρ
 refine W.seq' ?_
 refine wR ?_
 refine wS (vI ↑i_) rfl (Step.move rfl) ?_
 refine wS (vB (decide ((↑i_ : Int) < (5 : Int)))) rfl sP ?_
 refine WL.nil ?_
 refine W.cond (t := decide ((↑i_ : Int) < (5 : Int))) rfl (fun h7 => ?_) (fun h7 => ?_)
 ·
  have h7p := of_decide_eq_true h7
  refine W.skip ?_
  refine W.seq' ?_
  refine W.block ?_
  refine W.region rfl ?_
  refine wS (vP tb1) rfl (Step.move rfl) ?_
  refine wS (vI ↑i_) rfl (Step.move rfl) ?_
  refine wS (vI (97 + ↑i_)) rfl (Step.add rfl rfl (wrap_i64 (by omega))) ?_
  refine wS (Value.int .u8 (97 + (↑i_ : Int))) rfl (Step.cast (congrArg (Value.int .u8) (wrap_u8 (by omega))) (Step.conv Try.un3 Try.un5 rfl rfl)) ?_
  refine WL.new (obj := .cells #[(Value.int .u8 (97 + (↑i_ : Int)))] 5) (fun b => .slice (some ⟨b, 0, none⟩) 1 1) M rfl (fun w => Step.make (by kernel_rfl)) (fun b8 w9 hb8 M => ?_)
  refine wS (vS (strOfNums ([97 + (↑i_ : Int)] : List Int))) rfl (Step.bytesStr [97 + (↑i_ : Int)] Try.un121 Try.un5 Try.un9 rfl (M.blk 0 rfl) rfl rfl) ?_
  refine wS (vI ↑i_) rfl (Step.move rfl) ?_
  refine wS (vI (↑i_ + 1)) rfl (Step.add rfl rfl (wrap_i64 (by omega))) ?_
  have fq := M.frm [tT S_ tb1 (rowW i_) i_] [bk b8 #[(Value.int .u8 (97 + (↑i_ : Int)))] 5] [1, 0] rfl
  refine WL.callX rfl (T_put tb1 S_ (rowW i_) i_ (strOfNums ([97 + (↑i_ : Int)] : List Int)) (↑i_ + 1) (by first | assumption | omega) (M.eF fq trivial)) (CallsF.func Try.en18 rfl) ?_
  rintro _ w11 ⟨S10, rfl, m⟩
  replace M := M.lF fq m
  clear m
  refine WL.nil ?_
  refine W.region rfl ?_
  refine wS (vI ↑i_) rfl (Step.move rfl) ?_
  refine wS (vI (↑i_ + 1)) rfl (Step.add rfl rfl (wrap_i64 (by omega))) ?_
  refine wS (vI (↑i_ + 1)) rfl (Step.assign rfl) ?_
  refine WL.nil ?_
  replace M := M.rechunk 0 (c' := tT S10 tb1 (rowW (i_ + 1)) (i_ + 1)) rfl (rfl)
  replace M := M.sel (L' := [tT S10 tb1 (rowW (i_ + 1)) (i_ + 1)]) [0] rfl (by decide)
  exact ⟨_, (by omega), i_ + 1, S10, ⟨(by omega), rfl⟩, ⟨rfl, rfl, rfl, rfl, rfl⟩, M⟩
 ·
  have h7p := of_decide_eq_false h7
  refine W.exit ?_
  refine thn_exit ?_
  refine thn_exit ?_
  refine inBlk_hit ?_
  refine W.seq' ?_
  replace M := M.rechunk 0 (c' := tT S_ tb1 row5 5) rfl (by rw [show i_ = 5 by omega, rowW_5])
  refine W.region rfl ?_
  refine wS (vP tb1) rfl (Step.move rfl) ?_
  have fq := M.frm [tT S_ tb1 row5 5] [] [0] rfl
  refine WL.callX rfl (T_places tb1 S_ row5 5 (by first | assumption | omega) (M.eF fq trivial)) (CallsF.func Try.en32 rfl) ?_
  rintro v12 w16 ⟨_, cs13, N14, ps15, rfl, m⟩
  replace M := M.lF fq m
  clear m
  have sl17 : IsSl v12 := SlAt.isSl (own_slAt (Mem.chunk M 1 rfl).inv)
  have hle18 := SlAt.le' (own_slAt (Mem.chunk M 1 rfl).inv)
  refine wS v12 rfl (Step.assign rfl) ?_
  refine WL.nil ?_
  refine W.seq' ?_
  refine W.seq' ?_
  obtain ⟨a_, b_, c_, hps_, ha_, hb_, hc_⟩ := plc_five (M.chunk 3 rfl).inv rfl
  replace M := M.rechunk 2 (c' := rowsC 9 N14 0 cs13 ([(⟨1, false, a_⟩ : TPl), ⟨2, true, b_⟩, ⟨2, true, c_⟩])) rfl (by rw [hps_])
  have hcl_ : cs13.length = 3 := rows_len (M.chunk 2 rfl).inv
  refine W.region rfl ?_
  refine wS v12 rfl (Step.move rfl) ?_
  refine wS (vI 3) rfl (Step.cast (congrArg (Value.int .i64) (show (↑cs13.length : Int) = 3 by omega)) (Step.lenSl Try.un65 rfl (own_slAt (M.chunk 1 rfl).inv))) ?_
  refine wS (vB false) rfl sP ?_
  refine wS (vB false) rfl (Step.move rfl) ?_
  refine wS v12 rfl (Step.move rfl) ?_
  obtain ⟨cap20, hb19⟩ := SlAt.base (own_slAt (M.chunk 1 rfl).inv) (by omega)
  obtain ⟨x21, hx21⟩ := elem_of_lt (xs := cs13) (i := 0) (by omega)
  obtain ⟨p0_, hp0_, hd0_, hl0_, hs0_⟩ := rows_at (M.chunk 2 rfl).inv hx21
  obtain rfl : (⟨1, false, a_⟩ : TPl) = p0_ := Option.some.inj hp0_
  replace hd0_ : x21.depth = 1 := hd0_
  replace hl0_ : x21.leaf = false := hl0_
  have hsh0_ := SlAt.shp (hs0_ (Nat.zero_le _))
  refine wS (vQ v12 0 3) rfl (sX 0 Try.un65 Try.el74 rfl rfl hb19 rfl) ?_
  refine wS (vQ v12 0 3) rfl sP ?_
  refine wS (vI 1) rfl (Step.cast (congrArg (Value.int .i64) hd0_) (Step.loadE (k := 0) Try.sc3 (flat_ec (own_slAt (M.chunk 1 rfl).inv) hx21 plcE_len) (by decide) rfl rfl)) ?_
  refine wS (vB false) rfl sP ?_
  refine wS (vB false) rfl (Step.pick (t := false) rfl rfl) ?_
  refine wS (vB false) rfl (Step.move rfl) ?_
  refine wS v12 rfl (Step.move rfl) ?_
  refine wS (vQ v12 0 3) rfl (sX 0 Try.un65 Try.el74 rfl rfl hb19 rfl) ?_
  refine wS (vR v12 0 3 1) rfl sP ?_
  refine wS (vB false) rfl (Step.cast (congrArg Value.bool hl0_) (Step.loadE (k := 1) Try.sc4 (flat_ec (own_slAt (M.chunk 1 rfl).inv) hx21 plcE_len) (by decide) rfl rfl)) ?_
  refine wS (vB false) rfl (Step.pick (t := false) rfl rfl) ?_
  refine wS (vB false) rfl (Step.move rfl) ?_
  refine wS v12 rfl (Step.move rfl) ?_
  refine wS (vQ v12 0 3) rfl (sX 0 Try.un65 Try.el74 rfl rfl hb19 rfl) ?_
  refine wS (vR v12 0 3 2) rfl sP ?_
  refine wS x21.kv.1 rfl (Step.loadE (k := 2) Try.sc22 (flat_ec (own_slAt (M.chunk 1 rfl).inv) hx21 plcE_len) (by decide) rfl rfl) ?_
  refine wS (vI 1) rfl (Step.cast (congrArg (Value.int .i64) (show (↑a_.length : Int) = 1 by omega)) (Step.lenP Try.un22 rfl hsh0_)) ?_
  refine wS (vB false) rfl sP ?_
  refine wS (vB false) rfl (Step.pick (t := false) rfl rfl) ?_
  refine wS (vB false) rfl (Step.move rfl) ?_
  refine wS v12 rfl (Step.move rfl) ?_
  obtain ⟨x22, hx22⟩ := elem_of_lt (xs := cs13) (i := 1) (by omega)
  obtain ⟨p1_, hp1_, hd1_, hl1_, hs1_⟩ := rows_at (M.chunk 2 rfl).inv hx22
  obtain rfl : (⟨2, true, b_⟩ : TPl) = p1_ := Option.some.inj hp1_
  replace hd1_ : x22.depth = 2 := hd1_
  replace hl1_ : x22.leaf = true := hl1_
  have hsh1_ := SlAt.shp (hs1_ (Nat.zero_le _))
  refine wS (vQ v12 1 3) rfl (sX 1 Try.un65 Try.el74 rfl rfl hb19 rfl) ?_
  refine wS (vR v12 1 3 1) rfl sP ?_
  refine wS (vB true) rfl (Step.cast (congrArg Value.bool hl1_) (Step.loadE (k := 1) Try.sc4 (flat_ec (own_slAt (M.chunk 1 rfl).inv) hx22 plcE_len) (by decide) rfl rfl)) ?_
  refine wS (vB false) rfl sP ?_
  refine wS (vB false) rfl (Step.pick (t := false) rfl rfl) ?_
  refine wS (vB false) rfl (Step.move rfl) ?_
  refine wS v12 rfl (Step.move rfl) ?_
  refine wS (vQ v12 1 3) rfl (sX 1 Try.un65 Try.el74 rfl rfl hb19 rfl) ?_
  refine wS (vR v12 1 3 2) rfl sP ?_
  refine wS x22.kv.1 rfl (Step.loadE (k := 2) Try.sc22 (flat_ec (own_slAt (M.chunk 1 rfl).inv) hx22 plcE_len) (by decide) rfl rfl) ?_
  refine wS (vI 2) rfl (Step.cast (congrArg (Value.int .i64) (show (↑b_.length : Int) = 2 by omega)) (Step.lenP Try.un22 rfl hsh1_)) ?_
  refine wS (vB false) rfl sP ?_
  refine wS (vB false) rfl (Step.pick (t := false) rfl rfl) ?_
  refine wS (vB false) rfl (Step.move rfl) ?_
  refine wS v12 rfl (Step.move rfl) ?_
  obtain ⟨x23, hx23⟩ := elem_of_lt (xs := cs13) (i := 2) (by omega)
  obtain ⟨p2_, hp2_, hd2_, hl2_, hs2_⟩ := rows_at (M.chunk 2 rfl).inv hx23
  obtain rfl : (⟨2, true, c_⟩ : TPl) = p2_ := Option.some.inj hp2_
  replace hd2_ : x23.depth = 2 := hd2_
  replace hl2_ : x23.leaf = true := hl2_
  have hsh2_ := SlAt.shp (hs2_ (Nat.zero_le _))
  refine wS (vQ v12 2 3) rfl (sX 2 Try.un65 Try.el74 rfl rfl hb19 rfl) ?_
  refine wS (vR v12 2 3 1) rfl sP ?_
  refine wS (vB true) rfl (Step.cast (congrArg Value.bool hl2_) (Step.loadE (k := 1) Try.sc4 (flat_ec (own_slAt (M.chunk 1 rfl).inv) hx23 plcE_len) (by decide) rfl rfl)) ?_
  refine wS (vB false) rfl sP ?_
  refine wS (vB false) rfl (Step.pick (t := false) rfl rfl) ?_
  refine wS (vB false) rfl (Step.move rfl) ?_
  refine wS v12 rfl (Step.move rfl) ?_
  refine wS (vQ v12 2 3) rfl (sX 2 Try.un65 Try.el74 rfl rfl hb19 rfl) ?_
  refine wS (vR v12 2 3 2) rfl sP ?_
  refine wS x23.kv.1 rfl (Step.loadE (k := 2) Try.sc22 (flat_ec (own_slAt (M.chunk 1 rfl).inv) hx23 plcE_len) (by decide) rfl rfl) ?_
  refine wS (vI 2) rfl (Step.cast (congrArg (Value.int .i64) (show (↑c_.length : Int) = 2 by omega)) (Step.lenP Try.un22 rfl hsh2_)) ?_
  refine wS (vB false) rfl sP ?_
  refine wS (vB false) rfl (Step.pick (t := false) rfl rfl) ?_
  refine WL.nil ?_
  refine W.cond (t := false) rfl (fun h => by cases h) (fun _ => ?_)
  refine W.skip ?_
  refine W.seq' ?_
  replace M := M.loseI 1
  refine W.region rfl ?_
  refine wS (vP tb1) rfl (Step.move rfl) ?_
  have fq := M.frm [tT S_ tb1 row5 5] [rowsC 9 N14 0 cs13 ([(⟨1, false, a_⟩ : TPl), ⟨2, true, b_⟩, ⟨2, true, c_⟩]), propC (PlcP row5 ps15)] [0, 1, 2] rfl
  refine WL.callX rfl (T_from tb1 S_ row5 5 (⟨#[98, 98]⟩ : ByteArray) (by first | assumption | omega) (M.eF fq trivial)) (CallsF.func Try.en45 rfl) ?_
  rintro _ w24 ⟨rfl, m⟩
  replace M := M.lF fq m
  clear m
  refine wS (Value.tuple #[(Value.agg #[(vS (((fromL row5 (⟨#[98, 98]⟩ : ByteArray)).1).key)), (vI (((fromL row5 (⟨#[98, 98]⟩ : ByteArray)).1).val))]), (vB ((fromL row5 (⟨#[98, 98]⟩ : ByteArray)).2))]) rfl (Step.move rfl) ?_
  refine wS (Value.agg #[(vS (((fromL row5 (⟨#[98, 98]⟩ : ByteArray)).1).key)), (vI (((fromL row5 (⟨#[98, 98]⟩ : ByteArray)).1).val))]) rfl sP ?_
  refine wS (vB true) rfl (Step.cast (congrArg Value.bool (show ((fromL row5 (⟨#[98, 98]⟩ : ByteArray)).2) = true by decide +kernel)) sP) ?_
  refine WL.alloc (c := #[(vS sZ), (vI 0)]) M rfl Try.el41.zero rfl (fun b25 w26 hb25 M => ?_)
  refine WL.store (v := (Value.agg #[(vS (((fromL row5 (⟨#[98, 98]⟩ : ByteArray)).1).key)), (vI (((fromL row5 (⟨#[98, 98]⟩ : ByteArray)).1).val))])) (cs := [(vS (((fromL row5 (⟨#[98, 98]⟩ : ByteArray)).1).key)), (vI (((fromL row5 (⟨#[98, 98]⟩ : ByteArray)).1).val))]) (c' := #[(vS (((fromL row5 (⟨#[98, 98]⟩ : ByteArray)).1).key)), (vI (((fromL row5 (⟨#[98, 98]⟩ : ByteArray)).1).val))]) M 0 rfl rfl Try.el41.sized rfl rfl rfl rfl (Nat.le_of_ble_eq_true rfl) (cel_cons rfl (cel_cons rfl cel_nil)) rfl rfl (fun w27 M => ?_)
  refine wS (vB true) rfl (Step.assign rfl) ?_
  refine WL.nil ?_
  refine wR ?_
  refine wS (vP tb1) rfl (Step.move rfl) ?_
  have fq := M.frm [tT S_ tb1 row5 5] [bk b25 #[(vS (((fromL row5 (⟨#[98, 98]⟩ : ByteArray)).1).key)), (vI (((fromL row5 (⟨#[98, 98]⟩ : ByteArray)).1).val))] 41, rowsC 9 N14 0 cs13 ([(⟨1, false, a_⟩ : TPl), ⟨2, true, b_⟩, ⟨2, true, c_⟩]), propC (PlcP row5 ps15)] [1, 0, 2, 3] rfl
  refine WL.callX rfl (T_before tb1 S_ row5 5 (⟨#[97]⟩ : ByteArray) (by first | assumption | omega) (M.eF fq trivial)) (CallsF.func Try.en60 rfl) ?_
  rintro _ w28 ⟨rfl, m⟩
  replace M := M.lF fq m
  clear m
  refine wS (Value.tuple #[(Value.agg #[(vS (((beforeL row5 (⟨#[97]⟩ : ByteArray)).1).key)), (vI (((beforeL row5 (⟨#[97]⟩ : ByteArray)).1).val))]), (vB ((beforeL row5 (⟨#[97]⟩ : ByteArray)).2))]) rfl (Step.move rfl) ?_
  refine wS (Value.agg #[(vS (((beforeL row5 (⟨#[97]⟩ : ByteArray)).1).key)), (vI (((beforeL row5 (⟨#[97]⟩ : ByteArray)).1).val))]) rfl sP ?_
  refine wS (vB false) rfl (Step.cast (congrArg Value.bool (show ((beforeL row5 (⟨#[97]⟩ : ByteArray)).2) = false by decide +kernel)) sP) ?_
  refine WL.alloc (c := #[(vS sZ), (vI 0)]) M rfl Try.el41.zero rfl (fun b29 w30 hb29 M => ?_)
  refine WL.store (v := (Value.agg #[(vS (((beforeL row5 (⟨#[97]⟩ : ByteArray)).1).key)), (vI (((beforeL row5 (⟨#[97]⟩ : ByteArray)).1).val))])) (cs := [(vS (((beforeL row5 (⟨#[97]⟩ : ByteArray)).1).key)), (vI (((beforeL row5 (⟨#[97]⟩ : ByteArray)).1).val))]) (c' := #[(vS (((beforeL row5 (⟨#[97]⟩ : ByteArray)).1).key)), (vI (((beforeL row5 (⟨#[97]⟩ : ByteArray)).1).val))]) M 0 rfl rfl Try.el41.sized rfl rfl rfl rfl (Nat.le_of_ble_eq_true rfl) (cel_cons rfl (cel_cons rfl cel_nil)) rfl rfl (fun w31 M => ?_)
  refine wS (vB false) rfl (Step.assign rfl) ?_
  refine WL.nil ?_
  refine W.seq' ?_
  replace M := M.loseI 0
  refine W.region rfl ?_
  refine wS (vP tb1) rfl (Step.move rfl) ?_
  have fq := M.frm [tT S_ tb1 row5 5] [bk b25 #[(vS (((fromL row5 (⟨#[98, 98]⟩ : ByteArray)).1).key)), (vI (((fromL row5 (⟨#[98, 98]⟩ : ByteArray)).1).val))] 41, rowsC 9 N14 0 cs13 ([(⟨1, false, a_⟩ : TPl), ⟨2, true, b_⟩, ⟨2, true, c_⟩]), propC (PlcP row5 ps15)] [0, 1, 2, 3] rfl
  refine WL.callX rfl (T_delete tb1 S_ row5 5 (⟨#[99]⟩ : ByteArray) (by first | assumption | omega) (M.eF fq trivial)) (CallsF.func Try.en19 rfl) ?_
  rintro _ w33 ⟨S32, rfl, m⟩
  replace M := M.lF fq m
  clear m
  refine wS (Value.tuple #[(vI ((getL row5 (⟨#[99]⟩ : ByteArray)).1)), (vB ((getL row5 (⟨#[99]⟩ : ByteArray)).2))]) rfl (Step.move rfl) ?_
  refine wS (vI ((getL row5 (⟨#[99]⟩ : ByteArray)).1)) rfl sP ?_
  refine wS (vB true) rfl (Step.cast (congrArg Value.bool (show ((getL row5 (⟨#[99]⟩ : ByteArray)).2) = true by decide +kernel)) sP) ?_
  refine wS (vI ((getL row5 (⟨#[99]⟩ : ByteArray)).1)) rfl (Step.assign rfl) ?_
  refine wS (vB true) rfl (Step.assign rfl) ?_
  refine WL.nil ?_
  refine wR ?_
  refine wS (vB true) rfl (Step.move rfl) ?_
  refine wS (vB true) rfl (Step.move rfl) ?_
  refine wS (Value.agg #[(vS (((fromL row5 (⟨#[98, 98]⟩ : ByteArray)).1).key)), (vI (((fromL row5 (⟨#[98, 98]⟩ : ByteArray)).1).val))]) rfl (Step.loadN Try.ag41 rfl (M.blk 1 rfl) (Nat.le_of_ble_eq_true rfl) rfl) ?_
  refine wS (Value.agg #[(vS (⟨#[99]⟩ : ByteArray)), (vI 3)]) rfl sP ?_
  refine wS (vB true) rfl (Step.cast (congrArg Value.bool (show (decide (((fromL row5 (⟨#[98, 98]⟩ : ByteArray)).1) = (⟨(⟨#[99]⟩ : ByteArray), 3⟩ : THit))) = true by decide +kernel)) (Step.cast (congrArg Value.bool (hit_eqB ((fromL row5 (⟨#[98, 98]⟩ : ByteArray)).1) (⟨(⟨#[99]⟩ : ByteArray), 3⟩ : THit))) (Step.eqAgg Try.eg41 rfl rfl rfl (Try.eq41 9998 (((fromL row5 (⟨#[98, 98]⟩ : ByteArray)).1).key) (((fromL row5 (⟨#[98, 98]⟩ : ByteArray)).1).val : Int) (⟨#[99]⟩ : ByteArray) (3 : Int))))) ?_
  refine wS (vB true) rfl (Step.pick (t := true) rfl rfl) ?_
  refine wS (vB true) rfl (Step.move rfl) ?_
  refine wS (vB false) rfl (Step.move rfl) ?_
  refine wS (vB true) rfl sP ?_
  refine wS (vB true) rfl (Step.pick (t := true) rfl rfl) ?_
  refine wS (vB true) rfl (Step.move rfl) ?_
  refine wS (vI ((getL row5 (⟨#[99]⟩ : ByteArray)).1)) rfl (Step.move rfl) ?_
  refine wS (vB true) rfl (Step.cast (congrArg Value.bool (show (((getL row5 (⟨#[99]⟩ : ByteArray)).1 : Int) == (3 : Int)) = true by decide +kernel)) sP) ?_
  refine wS (vB true) rfl (Step.pick (t := true) rfl rfl) ?_
  refine wS (vB true) rfl (Step.move rfl) ?_
  refine wS (vB true) rfl (Step.move rfl) ?_
  refine wS (vB true) rfl (Step.pick (t := true) rfl rfl) ?_
  refine wS (vB true) rfl (Step.move rfl) ?_
  refine wS (vP tb1) rfl (Step.move rfl) ?_
  have fq := M.frm [tT S32 tb1 (delL row5 (⟨#[99]⟩ : ByteArray)) 5] [bk b25 #[(vS (((fromL row5 (⟨#[98, 98]⟩ : ByteArray)).1).key)), (vI (((fromL row5 (⟨#[98, 98]⟩ : ByteArray)).1).val))] 41, rowsC 9 N14 0 cs13 ([(⟨1, false, a_⟩ : TPl), ⟨2, true, b_⟩, ⟨2, true, c_⟩]), propC (PlcP row5 ps15)] [0, 1, 2, 3] rfl
  refine WL.callX rfl (T_len tb1 S32 (delL row5 (⟨#[99]⟩ : ByteArray)) 5 (M.eF fq trivial)) (CallsF.func Try.en42 rfl) ?_
  rintro _ w34 ⟨rfl, m⟩
  replace M := M.lF fq m
  clear m
  refine wS (vB true) rfl (Step.cast (congrArg Value.bool (show ((↑(delL row5 (⟨#[99]⟩ : ByteArray)).length : Int) == (4 : Int)) = true by decide +kernel)) sP) ?_
  refine wS (vB true) rfl (Step.pick (t := true) rfl rfl) ?_
  refine wS (vB true) rfl (Step.move rfl) ?_
  refine wS (vP tb1) rfl (Step.move rfl) ?_
  have fq := M.frm [tT S32 tb1 (delL row5 (⟨#[99]⟩ : ByteArray)) 5] [bk b25 #[(vS (((fromL row5 (⟨#[98, 98]⟩ : ByteArray)).1).key)), (vI (((fromL row5 (⟨#[98, 98]⟩ : ByteArray)).1).val))] 41, rowsC 9 N14 0 cs13 ([(⟨1, false, a_⟩ : TPl), ⟨2, true, b_⟩, ⟨2, true, c_⟩]), propC (PlcP row5 ps15)] [0, 1, 2, 3] rfl
  refine WL.callX rfl (T_check tb1 S32 (delL row5 (⟨#[99]⟩ : ByteArray)) 5 (by first | assumption | omega) (M.eF fq trivial)) (CallsF.func Try.en33 rfl) ?_
  rintro _ w35 ⟨rfl, m⟩
  replace M := M.lF fq m
  clear m
  refine wS (vB true) rfl sP ?_
  refine wS (vB true) rfl (Step.pick (t := true) rfl rfl) ?_
  refine wS (vB true) rfl (Step.assign rfl) ?_
  refine WL.nil ?_
  refine W.ret ?_
  refine ⟨.inl rfl, (vB true), ?_, ?_⟩
  · exact ⟨rfl, (Res.r1 (show RV _ _ _ (.tmp 0) (vB true) from by exact rfl))⟩
  refine ⟨?_, M.close [] rfl (by decide) trivial⟩
  rfl
end Go.Proofs
set_option maxRecDepth 100000
namespace Go.Proofs
open Go Tp
theorem Try.ag64 : Aggr Try.prog 64 3 := ⟨fun _ => by kernel_rfl, fun _ => by kernel_rfl⟩
theorem Try.en28 : Enters Try.prog 28 := fun _ _ => by kernel_rfl
theorem Try.en29 : Enters Try.prog 29 := fun _ _ => by kernel_rfl
theorem Try.en31 : Enters Try.prog 31 := fun _ _ => by kernel_rfl
theorem Try.en37 : Enters Try.prog 37 := fun _ _ => by kernel_rfl
end Go.Proofs
set_option maxRecDepth 100000
namespace Go.Proofs
open Go Tp
theorem Try.en34 : Enters Try.prog 34 := fun _ _ => by kernel_rfl
theorem Try.en35 : Enters Try.prog 35 := fun _ _ => by kernel_rfl
theorem Try.en36 : Enters Try.prog 36 := fun _ _ => by kernel_rfl
theorem law12_stands {G : Nat → Prop} {w : World} (v : Value) (l : List TAct)   (M : Mem G (fun _ => False) w [] [SlAt 3 v l.length (l.flatMap actE)] w) : Rets Try.prog 7 #[v] w fun r w' => r = (vB true) ∧ Mem G (fun _ => False) w [] [] w' := by
 refine Rets.enter 109 _ Try.func7 rfl Try.ntmps7 Try.results7 (by simp) ?_
 have hle1 := SlAt.le' (M.rep 0 rfl)
 have sl2 : IsSl v := SlAt.isSl (Mem.rep M 0 rfl)
 refine wR ?_
 refine wS (vB false) rfl (Step.assign rfl) ?_
 refine WL.nil ?_
 refine W.seq' ?_
 refine wR ?_
 refine wS v rfl (Step.move rfl) ?_
 refine WL.callX rfl (l_few v l 200 (M.enterW0 ⟨(M.wideR0 0 rfl), trivial⟩)) (CallsF.func Try.en28 rfl) ?_
 rintro _ w3 ⟨rfl, m⟩
 replace M := M.leaveW0 m
 clear m
 refine wS (vB (!(fewT l 200))) rfl sP ?_
 refine WL.nil ?_
 refine W.cond (t := !(fewT l 200)) rfl (fun h4 => ?_) (fun h4 => ?_)
 ·
  refine wR ?_
  refine WL.callX rfl (l_works  (M.enterW0 trivial)) (CallsF.func Try.en29 rfl) ?_
  rintro _ w5 ⟨rfl, m⟩
  replace M := M.leaveW0 m
  clear m
  refine wS (vB true) rfl (Step.assign rfl) ?_
  refine WL.nil ?_
  refine W.ret ?_
  refine ⟨.inl rfl, (vB true), ?_, ?_⟩
  · exact ⟨rfl, (Res.r1 (show RV _ _ _ (.tmp 2) (vB true) from by exact rfl))⟩
  refine ⟨?_, M.close [] rfl (by decide) trivial⟩
  rfl
 ·
  have hfw_ := few_fact (show fewT l 200 = true by simpa using h4)
  refine W.skip ?_
  refine wR ?_
  refine WL.callX rfl (T_new  (M.enterW0 trivial)) (CallsF.func Try.en30 rfl) ?_
  rintro _ w8 ⟨tb6, S7, rfl, m⟩
  replace M := M.leaveW0 m
  clear m
  refine wS (vP tb6) rfl (Step.assign rfl) ?_
  refine WL.nil ?_
  refine wR ?_
  refine wS vZ rfl (Step.assign rfl) ?_
  refine WL.nil ?_
  refine W.seq' ?_
  refine wR ?_
  refine wS (vI 0) rfl (Step.assign rfl) ?_
  refine WL.nil ?_
  refine W.block ?_
  replace M := M.ownNil 108 2
  replace M := M.shareOwn 0 rfl
  replace M : Mem _ _ _ [tT S7 tb6 ([] : List THit) 0] [fR vZ ([] : List THit), SlAt 3 v l.length (l.flatMap actE)] _ := M
  refine W.loop (fun kk ρ w' => ∃ (i_ : Nat) (row_ : List THit) (rv_ : Value) (S_ : Nat → Prop), ((i_ ≤ l.length) ∧ kk = l.length - i_) ∧ ρ.has [(0, v), (3, (vP tb6)), (4, rv_), (5, (vI ↑i_))] ∧ Mem G (fun _ => False) w [tT S_ tb6 row_ i_] [fR rv_ row_, SlAt 3 v l.length (l.flatMap actE)]  w') _ ⟨0, ([] : List THit), _, _, ⟨(Nat.zero_le _), rfl⟩, ⟨rfl, rfl, rfl, rfl, rfl, rfl⟩, M⟩ ?_
  rintro _ ρ10 w9 ⟨i_, row_, rv_, S_, ⟨hi11, rfl⟩, hρ, M⟩
  obtain ⟨ρ10, rfl⟩ := hρ.know
  clear hρ
  have sl12 : IsSl rv_ := SlAt.isSl (M.rep 0 rfl)
  refine W.seq' ?_
  refine wR ?_
  refine wS (vI ↑i_) rfl (Step.move rfl) ?_
  refine wS v rfl (Step.move rfl) ?_
  refine wS (vI ↑l.length) rfl (Step.lenSl Try.un58 rfl (M.rep 1 rfl)) ?_
  refine wS (vB (decide ((↑i_ : Int) < (↑l.length : Int)))) rfl sP ?_
  refine WL.nil ?_
  refine W.cond (t := decide ((↑i_ : Int) < (↑l.length : Int))) rfl (fun h13 => ?_) (fun h13 => ?_)
  ·
   have h13p := of_decide_eq_true h13
   refine W.skip ?_
   refine W.seq' ?_
   refine W.block ?_
   refine wR ?_
   refine wS (vP tb6) rfl (Step.move rfl) ?_
   refine wS rv_ rfl (Step.move rfl) ?_
   refine wS v rfl (Step.move rfl) ?_
   refine wS (vI ↑i_) rfl (Step.move rfl) ?_
   obtain ⟨cap15, hb14⟩ := SlAt.base (M.rep 1 rfl) (by omega)
   refine wS (vQ v i_ 3) rfl (sX i_ Try.un58 Try.el64 rfl rfl hb14) ?_
   obtain ⟨x16, hx16⟩ := elem_of_lt (xs := l) (i := i_) (by omega)
   refine wS (Value.agg #[(vI x16.do_), (vS x16.k), (vI x16.v)]) rfl (Step.loadEN (k := 0) (cs' := [(vI x16.do_), (vS x16.k), (vI x16.v)]) Try.ag64 (flat_ec (M.rep 1 rfl) hx16 actE_len) (by decide) rfl rfl rfl) ?_
   have fq := M.frm [tT S_ tb6 row_ i_] [] [0] rfl
   refine WL.callX rfl (l_does tb6 S_ row_ i_ rv_ x16 (by omega) (M.eN fq ⟨(M.shr' 0 rfl), trivial⟩)) (CallsF.func Try.en31 rfl) ?_
   rintro _ w19 ⟨rv17, S18, rfl, m⟩
   replace M := M.lN fq m
   clear m
   have sl20 : IsSl rv17 := SlAt.isSl (Mem.rep M 0 rfl)
   have hle21 := SlAt.le' (M.rep 0 rfl)
   refine wS (Value.tuple #[rv17, (vB true)]) rfl (Step.move rfl) ?_
   refine wS rv17 rfl sP ?_
   refine wS (vB true) rfl sP ?_
   refine wS rv17 rfl (Step.assign rfl) ?_
   refine wS (vB true) rfl (Step.assign rfl) ?_
   refine WL.nil ?_
   refine wR ?_
   refine wS rv17 rfl (Step.move rfl) ?_
   refine wS rv17 rfl (Step.assign rfl) ?_
   refine WL.nil ?_
   refine wR ?_
   refine wS (vP tb6) rfl (Step.move rfl) ?_
   have fq := M.frm [tT S18 tb6 (doesR row_ x16) (i_ + 1)] [] [0] rfl
   refine WL.callX rfl (T_places tb6 S18 (doesR row_ x16) (i_ + 1) (by first | assumption | omega) (M.eF fq trivial)) (CallsF.func Try.en32 rfl) ?_
   rintro v22 w26 ⟨_, cs23, N24, ps25, rfl, m⟩
   replace M := M.lF fq m
   clear m
   have sl27 : IsSl v22 := SlAt.isSl (own_slAt (Mem.chunk M 1 rfl).inv)
   have hle28 := SlAt.le' (own_slAt (Mem.chunk M 1 rfl).inv)
   refine wS v22 rfl (Step.assign rfl) ?_
   refine WL.nil ?_
   refine W.seq' ?_
   refine W.seq' ?_
   have hPP_ := (M.chunk 3 rfl).inv
   obtain ⟨D, hP⟩ := plc_ok hPP_
   have hk4_ := plc_four hP
   have hpl_ := plc_le hPP_
   have hcl_ := rows_len (M.chunk 2 rfl).inv
   obtain ⟨hup_, hrc_⟩ := tabC_up (M.chunk 0 rfl).inv
   have hDr_ := plc_deep hP
   refine W.region rfl ?_
   refine wS (vB true) rfl (Step.move rfl) ?_
   refine wS (vB false) rfl sP ?_
   refine wS (vB false) rfl (Step.move rfl) ?_
   refine wS (vP tb6) rfl (Step.move rfl) ?_
   have fq := M.frm [tT S18 tb6 (doesR row_ x16) (i_ + 1)] [oP v22 cs23, rowsC 9 N24 0 cs23 ps25, propC (PlcP (doesR row_ x16) ps25)] [0, 1, 2, 3] rfl
   refine WL.callX rfl (T_check tb6 S18 (doesR row_ x16) (i_ + 1) (by first | assumption | omega) (M.eF fq trivial)) (CallsF.func Try.en33 rfl) ?_
   rintro _ w29 ⟨rfl, m⟩
   replace M := M.lF fq m
   clear m
   refine wS (vB false) rfl sP ?_
   refine wS (vB false) rfl (Step.pick (t := false) rfl rfl) ?_
   refine wS (vB false) rfl (Step.move rfl) ?_
   refine wS v22 rfl (Step.move rfl) ?_
   refine WL.callX rfl (l_places v22 ps25 (by omega) (by assumption) (M.enterW0 ⟨(((M.wideC0 1 rfl).and (M.wideC0 2 rfl)).imp fun _ ⟨h1_, h2_⟩ => rows_rep (own_slAt h1_) h2_), trivial⟩)) (CallsF.func Try.en35 rfl) ?_
   rintro v30 w33 ⟨_, cs31, N32, rfl, m⟩
   replace M := M.leaveW0 m
   clear m
   have sl34 : IsSl v30 := SlAt.isSl (own_slAt (Mem.chunk M 0 rfl).inv)
   have hle35 := SlAt.le' (own_slAt (Mem.chunk M 0 rfl).inv)
   refine wS rv17 rfl (Step.move rfl) ?_
   refine WL.callX rfl (l_keys rv17 (doesR row_ x16) (by omega) (M.enter0 ⟨(M.shr' 0 rfl), trivial⟩)) (CallsF.func Try.en36 rfl) ?_
   rintro v36 w37 ⟨_, rfl, m⟩
   replace M := M.leave0 m
   clear m
   have sl38 : IsSl v36 := SlAt.isSl (Mem.rep M 0 rfl)
   have hle39 := SlAt.le' (M.rep 0 rfl)
   refine WL.callX rfl (r_right v30 ps25 v36 ((doesR row_ x16).map THit.key) (doesR row_ x16) D (by assumption) (by first | assumption | rfl) (by assumption) (by omega) (by omega) (M.enterW0 ⟨(((M.wideC0 0 rfl).and (M.wideC0 1 rfl)).imp fun _ ⟨h1_, h2_⟩ => rows_rep (own_slAt h1_) h2_), (M.wideR0 0 rfl), trivial⟩)) (CallsF.func Try.en34 rfl) ?_
   rintro _ w40 ⟨rfl, m⟩
   replace M := M.leaveW0 m
   clear m
   refine wS (vB false) rfl sP ?_
   refine wS (vB false) rfl (Step.pick (t := false) rfl rfl) ?_
   refine WL.nil ?_
   refine W.cond (t := false) rfl (fun h => by cases h) (fun _ => ?_)
   refine W.skip ?_
   refine wR ?_
   refine wS (vI 0) rfl (Step.assign rfl) ?_
   refine wS (vI 0) rfl (Step.assign rfl) ?_
   refine WL.nil ?_
   refine W.seq' ?_
   refine wR ?_
   refine wS (vI 0) rfl (Step.assign rfl) ?_
   refine WL.nil ?_
   refine W.block ?_
   replace M := M.sel (L' := [oP v22 cs23, rowsC 9 N24 0 cs23 ps25, tT S18 tb6 (doesR row_ x16) (i_ + 1)]) [3, 4, 2] rfl (by decide)
   replace M := M.facts (R' := [fR rv17 (doesR row_ x16), SlAt 3 v l.length (l.flatMap actE)]) (Facts.all ⟨M.shr' 1 rfl, M.shr' 3 rfl, trivial⟩)
   refine W.loop (fun kk ρ w' => ∃ (n_ : Nat) (dp_ : Int) (N_ : Nat → Prop), ((n_ ≤ cs23.length) ∧ (0 ≤ dp_ ∧ dp_ ≤ (D : Int)) ∧ kk = cs23.length - n_) ∧ ρ.has [(0, v), (3, (vP tb6)), (4, rv17), (5, (vI ↑i_)), (6, rv17), (7, (vB true)), (8, v22), (9, (vI dp_)), (10, (vI 0)), (11, (vI ↑n_)), (19, (vI ↑i_)), (20, v), (21, (vI ↑l.length)), (22, (vB (decide ((↑i_ : Int) < (↑l.length : Int))))), (25, (Value.tuple #[rv17, (vB true)])), (26, (vP tb6)), (27, rv_), (28, v), (29, (vI ↑i_)), (30, (vQ v i_ 3)), (31, (Value.agg #[(vI x16.do_), (vS x16.k), (vI x16.v)])), (32, (Value.tuple #[rv17, (vB true)])), (33, rv17), (34, (vB true)), (35, rv17), (36, (vP tb6)), (37, v22), (38, (vB true)), (39, (vB false)), (40, (vB false)), (41, (vP tb6)), (42, (vI 0)), (43, (vB false)), (44, (vB false)), (45, (vB false)), (46, v22), (47, v30), (48, rv17), (49, v36), (50, (vB true)), (51, (vB false)), (52, (vB false))] ∧ Mem G (fun _ => False) w [oP v22 cs23, rowsC 9 N_ n_ cs23 ps25, tT S18 tb6 (doesR row_ x16) (i_ + 1)] [fR rv17 (doesR row_ x16), SlAt 3 v l.length (l.flatMap actE)]  w') _ ⟨0, 0, _, ⟨(Nat.zero_le _), (by omega), rfl⟩, ⟨rfl, rfl, rfl, rfl, rfl, rfl, rfl, rfl, rfl, rfl, rfl, rfl, rfl, rfl, rfl, rfl, rfl, rfl, rfl, rfl, rfl, rfl, rfl, rfl, rfl, rfl, rfl, rfl, rfl, rfl, rfl, rfl, rfl, rfl, rfl, rfl, rfl, rfl, rfl, rfl, rfl, rfl, rfl, rfl⟩, M⟩ ?_
   rintro _ ρ42 w41 ⟨n_, dp_, N_, ⟨hi43, hi44, rfl⟩, hρ, M⟩
   obtain ⟨ρ42, rfl⟩ := hρ.know
   clear hρ
   obtain ⟨hdp1_, hdp2_⟩ : 0 ≤ dp_ ∧ dp_ ≤ (D : Int) := hi44
   refine W.seq' ?_
   refine wR ?_
   refine wS (vI ↑n_) rfl (Step.move rfl) ?_
   refine wS v22 rfl (Step.move rfl) ?_
   refine wS (vI ↑cs23.length) rfl (Step.lenSl Try.un65 rfl (own_slAt (M.chunk 0 rfl).inv)) ?_
   refine wS (vB (decide ((↑n_ : Int) < (↑cs23.length : Int)))) rfl sP ?_
   refine WL.nil ?_
   refine W.cond (t := decide ((↑n_ : Int) < (↑cs23.length : Int))) rfl (fun h45 => ?_) (fun h45 => ?_)
   ·
    have h45p := of_decide_eq_true h45
    refine W.skip ?_
    refine W.seq' ?_
    refine W.block ?_
    refine wR ?_
    refine wS (vI dp_) rfl (Step.move rfl) ?_
    refine wS v22 rfl (Step.move rfl) ?_
    refine wS (vI ↑n_) rfl (Step.move rfl) ?_
    obtain ⟨cap47, hb46⟩ := SlAt.base (own_slAt (M.chunk 0 rfl).inv) (by omega)
    refine wS (vQ v22 n_ 3) rfl (sX n_ Try.un65 Try.el74 rfl rfl hb46) ?_
    refine wS (vQ v22 n_ 3) rfl sP ?_
    obtain ⟨x48, hx48⟩ := elem_of_lt (xs := cs23) (i := n_) (by omega)
    obtain ⟨p_, hp_, hdp_, hlp_, -⟩ := rows_at (M.chunk 1 rfl).inv hx48
    have hdb_ := hP.deep p_ (List.mem_of_getElem? hp_)
    have hk4p_ := hk4_ p_ (List.mem_of_getElem? hp_)
    refine wS (vI x48.depth) rfl (Step.loadE (k := 0) Try.sc3 (flat_ec (own_slAt (M.chunk 0 rfl).inv) hx48 plcE_len) (by decide) rfl rfl) ?_
    refine wS (vI (max (dp_ : Int) (x48.depth : Int))) rfl (Step.maxI rfl rfl) ?_
    refine wS (vI (max (dp_ : Int) (x48.depth : Int))) rfl (Step.assign rfl) ?_
    refine WL.nil ?_
    refine W.seq' ?_
    replace M := M.sel (L' := [rowsC 9 N_ n_ cs23 ps25, oP v22 cs23, tT S18 tb6 (doesR row_ x16) (i_ + 1)]) [1, 0, 2] rfl (by decide)
    obtain ⟨N2_, M⟩ := M.rowsOut hx48 hp_
    refine W.region rfl ?_
    refine wS (vI 0) rfl (Step.assign rfl) ?_
    refine WL.nil ?_
    refine W.block ?_
    replace M := M.sel (L' := [oS x48.kv.1 p_.keys, rowsC 9 N2_ (n_ + 1) cs23 ps25, oP v22 cs23, tT S18 tb6 (doesR row_ x16) (i_ + 1)]) [0, 1, 2, 3] rfl (by decide)
    refine W.loop (fun kk ρ w' => ∃ (m_ : Nat) (ks_ : List ByteArray), ((ks_.length = p_.keys.length) ∧ (m_ ≤ p_.keys.length) ∧ kk = p_.keys.length - m_) ∧ ρ.has [(0, v), (3, (vP tb6)), (4, rv17), (5, (vI ↑i_)), (6, rv17), (7, (vB true)), (8, v22), (9, (vI (max (dp_ : Int) (x48.depth : Int)))), (10, (vI 0)), (11, (vI ↑n_)), (12, (vI ↑m_)), (19, (vI ↑i_)), (20, v), (21, (vI ↑l.length)), (22, (vB (decide ((↑i_ : Int) < (↑l.length : Int))))), (25, (Value.tuple #[rv17, (vB true)])), (26, (vP tb6)), (27, rv_), (28, v), (29, (vI ↑i_)), (30, (vQ v i_ 3)), (31, (Value.agg #[(vI x16.do_), (vS x16.k), (vI x16.v)])), (32, (Value.tuple #[rv17, (vB true)])), (33, rv17), (34, (vB true)), (35, rv17), (36, (vP tb6)), (37, v22), (38, (vB true)), (39, (vB false)), (40, (vB false)), (41, (vP tb6)), (42, (vI 0)), (43, (vB false)), (44, (vB false)), (45, (vB false)), (46, v22), (47, v30), (48, rv17), (49, v36), (50, (vB true)), (51, (vB false)), (52, (vB false)), (53, (vI ↑n_)), (54, v22), (55, (vI ↑cs23.length)), (56, (vB (decide ((↑n_ : Int) < (↑cs23.length : Int))))), (59, (vI dp_)), (60, v22), (61, (vI ↑n_)), (62, (vQ v22 n_ 3)), (63, (vQ v22 n_ 3)), (64, (vI x48.depth)), (65, (vI (max (dp_ : Int) (x48.depth : Int))))] ∧ Mem G (fun _ => False) w [oS x48.kv.1 ks_, rowsC 9 N2_ (n_ + 1) cs23 ps25, oP v22 cs23, tT S18 tb6 (doesR row_ x16) (i_ + 1)] [fR rv17 (doesR row_ x16), SlAt 3 v l.length (l.flatMap actE)]  w') _ ⟨0, p_.keys, ⟨rfl, (Nat.zero_le _), rfl⟩, ⟨rfl, rfl, rfl, rfl, rfl, rfl, rfl, rfl, rfl, rfl, rfl, rfl, rfl, rfl, rfl, rfl, rfl, rfl, rfl, rfl, rfl, rfl, rfl, rfl, rfl, rfl, rfl, rfl, rfl, rfl, rfl, rfl, rfl, rfl, rfl, rfl, rfl, rfl, rfl, rfl, rfl, rfl, rfl, rfl, rfl, rfl, rfl, rfl, rfl, rfl, rfl, rfl, rfl, rfl, rfl, rfl⟩, M⟩ ?_
    rintro _ ρ50 w49 ⟨m_, ks_, ⟨hi51, hi52, rfl⟩, hρ, M⟩
    obtain ⟨ρ50, rfl⟩ := hρ.know
    clear hρ
    refine W.seq' ?_
    refine wR ?_
    refine wS (vI ↑m_) rfl (Step.move rfl) ?_
    refine wS v22 rfl (Step.move rfl) ?_
    refine wS (vI ↑n_) rfl (Step.move rfl) ?_
    refine wS (vQ v22 n_ 3) rfl (sX n_ Try.un65 Try.el74 rfl rfl hb46) ?_
    refine wS (vR v22 n_ 3 2) rfl sP ?_
    obtain ⟨p_, hp_, hdp_, hlp_, -⟩ := rows_at (M.chunk 1 rfl).inv hx48
    have hdb_ := hP.deep p_ (List.mem_of_getElem? hp_)
    have hk4p_ := hk4_ p_ (List.mem_of_getElem? hp_)
    refine wS x48.kv.1 rfl (Step.loadE (k := 2) Try.sc22 (flat_ec (own_slAt (M.chunk 2 rfl).inv) hx48 plcE_len) (by decide) rfl rfl) ?_
    refine wS (vI ↑ks_.length) rfl (Step.lenSl Try.un22 rfl (own_slAt (M.chunk 0 rfl).inv)) ?_
    refine wS (vB (decide ((↑m_ : Int) < (↑ks_.length : Int)))) rfl sP ?_
    refine WL.nil ?_
    refine W.cond (t := decide ((↑m_ : Int) < (↑ks_.length : Int))) rfl (fun h53 => ?_) (fun h53 => ?_)
    ·
     have h53p := of_decide_eq_true h53
     refine W.skip ?_
     refine W.seq' ?_
     refine W.block ?_
     refine W.region rfl ?_
     refine wS v22 rfl (Step.move rfl) ?_
     refine wS (vI ↑n_) rfl (Step.move rfl) ?_
     refine wS (vQ v22 n_ 3) rfl (sX n_ Try.un65 Try.el74 rfl rfl hb46) ?_
     refine wS (vR v22 n_ 3 2) rfl sP ?_
     refine wS x48.kv.1 rfl (Step.loadE (k := 2) Try.sc22 (flat_ec (own_slAt (M.chunk 2 rfl).inv) hx48 plcE_len) (by decide) rfl rfl) ?_
     refine wS (vI ↑m_) rfl (Step.move rfl) ?_
     obtain ⟨cap55, hb54⟩ := SlAt.base (own_slAt (M.chunk 0 rfl).inv) (by omega)
     refine wS (vQ x48.kv.1 m_ 1) rfl (sX m_ Try.un22 Try.el9 rfl rfl hb54) ?_
     refine WL.act rfl (M.storeF strE_len (⟨#[63]⟩ : ByteArray) 0 rfl Try.el9.sized rfl rfl rfl (cel_cons rfl cel_nil) (by first | omega | (simp only [List.length_set]; omega))) ?_
     rintro w56 ⟨M, -⟩
     refine WL.nil ?_
     refine W.region rfl ?_
     refine wS (vI ↑m_) rfl (Step.move rfl) ?_
     refine wS (vI (↑m_ + 1)) rfl (Step.add rfl rfl (wrap_i64 (by omega))) ?_
     refine wS (vI (↑m_ + 1)) rfl (Step.assign rfl) ?_
     refine WL.nil ?_
     exact ⟨_, (by omega), m_ + 1, ks_.set m_ (⟨#[63]⟩ : ByteArray), ⟨(by rw [List.length_set]; assumption), (by omega), rfl⟩, ⟨rfl, rfl, rfl, rfl, rfl, rfl, rfl, rfl, rfl, rfl, rfl, rfl, rfl, rfl, rfl, rfl, rfl, rfl, rfl, rfl, rfl, rfl, rfl, rfl, rfl, rfl, rfl, rfl, rfl, rfl, rfl, rfl, rfl, rfl, rfl, rfl, rfl, rfl, rfl, rfl, rfl, rfl, rfl, rfl, rfl, rfl, rfl, rfl, rfl, rfl, rfl, rfl, rfl, rfl, rfl, rfl⟩, M⟩
    ·
     have h53p := of_decide_eq_false h53
     refine W.exit ?_
     refine thn_exit ?_
     refine thn_exit ?_
     refine inBlk_hit ?_
     refine W.region rfl ?_
     refine wS (vI ↑n_) rfl (Step.move rfl) ?_
     refine wS (vI (↑n_ + 1)) rfl (Step.add rfl rfl (wrap_i64 (by omega))) ?_
     refine wS (vI (↑n_ + 1)) rfl (Step.assign rfl) ?_
     refine WL.nil ?_
     replace M := M.sel (L' := [oP v22 cs23, rowsC 9 N2_ (n_ + 1) cs23 ps25, tT S18 tb6 (doesR row_ x16) (i_ + 1)]) [2, 1, 3] rfl (by decide)
     exact ⟨_, (by omega), n_ + 1, (max (dp_ : Int) (x48.depth : Int)), N2_, ⟨(by omega), (by omega), rfl⟩, ⟨rfl, rfl, rfl, rfl, rfl, rfl, rfl, rfl, rfl, rfl, rfl, rfl, rfl, rfl, rfl, rfl, rfl, rfl, rfl, rfl, rfl, rfl, rfl, rfl, rfl, rfl, rfl, rfl, rfl, rfl, rfl, rfl, rfl, rfl, rfl, rfl, rfl, rfl, rfl, rfl, rfl, rfl, rfl, rfl⟩, M⟩
   ·
    have h45p := of_decide_eq_false h45
    refine W.exit ?_
    refine thn_exit ?_
    refine thn_exit ?_
    refine inBlk_hit ?_
    refine W.seq' ?_
    refine wR ?_
    refine wS (vI dp_) rfl (Step.move rfl) ?_
    refine wS (vB (decide ((dp_ : Int) > (0 : Int)))) rfl sP ?_
    refine WL.nil ?_
    refine W.cond (t := decide ((dp_ : Int) > (0 : Int))) rfl (fun h57 => ?_) (fun h57 => ?_)
    ·
     have h57p := of_decide_eq_true h57
     refine W.region rfl ?_
     refine wS (vI 1) rfl (Step.assign rfl) ?_
     refine WL.nil ?_
     refine W.seq' ?_
     refine wR ?_
     refine wS (vI 1) rfl (Step.assign rfl) ?_
     refine WL.nil ?_
     refine W.block ?_
     refine W.loop (fun kk ρ w' => ∃ (e_ : Nat), ((1 ≤ e_) ∧ (e_ ≤ D) ∧ kk = D - e_) ∧ ρ.has [(0, v), (3, (vP tb6)), (4, rv17), (5, (vI ↑i_)), (6, rv17), (7, (vB true)), (8, v22), (9, (vI dp_)), (10, (vI (↑(leastK e_)))), (11, (vI ↑n_)), (13, (vI ↑e_)), (19, (vI ↑i_)), (20, v), (21, (vI ↑l.length)), (22, (vB (decide ((↑i_ : Int) < (↑l.length : Int))))), (25, (Value.tuple #[rv17, (vB true)])), (26, (vP tb6)), (27, rv_), (28, v), (29, (vI ↑i_)), (30, (vQ v i_ 3)), (31, (Value.agg #[(vI x16.do_), (vS x16.k), (vI x16.v)])), (32, (Value.tuple #[rv17, (vB true)])), (33, rv17), (34, (vB true)), (35, rv17), (36, (vP tb6)), (37, v22), (38, (vB true)), (39, (vB false)), (40, (vB false)), (41, (vP tb6)), (42, (vI 0)), (43, (vB false)), (44, (vB false)), (45, (vB false)), (46, v22), (47, v30), (48, rv17), (49, v36), (50, (vB true)), (51, (vB false)), (52, (vB false)), (53, (vI ↑n_)), (54, v22), (55, (vI ↑cs23.length)), (56, (vB (decide ((↑n_ : Int) < (↑cs23.length : Int))))), (83, (vI dp_)), (84, (vB (decide ((dp_ : Int) > (0 : Int)))))] ∧ Mem G (fun _ => False) w [oP v22 cs23, rowsC 9 N_ n_ cs23 ps25, tT S18 tb6 (doesR row_ x16) (i_ + 1)] [fR rv17 (doesR row_ x16), SlAt 3 v l.length (l.flatMap actE)]  w') _ ⟨1, ⟨(Nat.le_refl _), (by omega), rfl⟩, ⟨rfl, rfl, rfl, rfl, rfl, rfl, rfl, rfl, rfl, rfl, rfl, rfl, rfl, rfl, rfl, rfl, rfl, rfl, rfl, rfl, rfl, rfl, rfl, rfl, rfl, rfl, rfl, rfl, rfl, rfl, rfl, rfl, rfl, rfl, rfl, rfl, rfl, rfl, rfl, rfl, rfl, rfl, rfl, rfl, rfl, rfl, rfl, rfl, rfl, rfl, rfl⟩, M⟩ ?_
     rintro _ ρ59 w58 ⟨e_, ⟨hi60, hi61, rfl⟩, hρ, M⟩
     obtain ⟨ρ59, rfl⟩ := hρ.know
     clear hρ
     have hlk_ := leastK_mono (n := e_ + 1) (m := D + 1) (by omega)
     have hlm_ := leastK_mono (n := e_) (m := D) (by omega)
     have hll_ := hP.least
     have hls_ := leastK_step (n := e_) (by omega)
     refine W.seq' ?_
     refine wR ?_
     refine wS (vI ↑e_) rfl (Step.move rfl) ?_
     refine wS (vI dp_) rfl (Step.move rfl) ?_
     refine wS (vB (decide ((↑e_ : Int) < (dp_ : Int)))) rfl sP ?_
     refine WL.nil ?_
     refine W.cond (t := decide ((↑e_ : Int) < (dp_ : Int))) rfl (fun h62 => ?_) (fun h62 => ?_)
     ·
      have h62p := of_decide_eq_true h62
      refine W.skip ?_
      refine W.seq' ?_
      refine W.block ?_
      refine W.region rfl ?_
      refine wS (vI (↑(leastK e_))) rfl (Step.move rfl) ?_
      refine wS (vI (3 * (↑(leastK e_)))) rfl (Step.mul rfl rfl (wrap_i64 (by omega))) ?_
      refine wS (vI (↑(leastK (e_ + 1)))) rfl (Step.cast (congrArg (Value.int .i64) (show (3 * (↑(leastK e_)) + 2 : Int) = ↑(leastK (e_ + 1)) by omega)) (Step.add rfl rfl (wrap_i64 (by omega)))) ?_
      refine wS (vI (↑(leastK (e_ + 1)))) rfl (Step.assign rfl) ?_
      refine WL.nil ?_
      refine W.region rfl ?_
      refine wS (vI ↑e_) rfl (Step.move rfl) ?_
      refine wS (vI (↑e_ + 1)) rfl (Step.add rfl rfl (wrap_i64 (by omega))) ?_
      refine wS (vI (↑e_ + 1)) rfl (Step.assign rfl) ?_
      refine WL.nil ?_
      exact ⟨_, (by omega), e_ + 1, ⟨(by omega), (by omega), rfl⟩, ⟨rfl, rfl, rfl, rfl, rfl, rfl, rfl, rfl, rfl, rfl, rfl, rfl, rfl, rfl, rfl, rfl, rfl, rfl, rfl, rfl, rfl, rfl, rfl, rfl, rfl, rfl, rfl, rfl, rfl, rfl, rfl, rfl, rfl, rfl, rfl, rfl, rfl, rfl, rfl, rfl, rfl, rfl, rfl, rfl, rfl, rfl, rfl, rfl, rfl, rfl, rfl⟩, M⟩
     ·
      have h62p := of_decide_eq_false h62
      refine W.exit ?_
      refine thn_exit ?_
      refine thn_exit ?_
      refine inBlk_hit ?_
      refine wR ?_
      refine wS rv17 rfl (Step.move rfl) ?_
      refine wS (vI (↑((doesR row_ x16).length))) rfl (Step.lenSl Try.un27 rfl (M.rep 0 rfl)) ?_
      refine wS (vI (↑(leastK e_))) rfl (Step.move rfl) ?_
      refine wS (vB (decide ((↑((doesR row_ x16).length) : Int) < (↑(leastK e_) : Int)))) rfl sP ?_
      refine WL.nil ?_
      refine W.cond (t := decide ((↑((doesR row_ x16).length) : Int) < (↑(leastK e_) : Int))) rfl (fun h63 => ?_) (fun h63 => ?_)
      ·
       have h63p := of_decide_eq_true h63
       omega
      ·
       have h63p := of_decide_eq_false h63
       refine W.skip ?_
       refine W.region rfl ?_
       refine wS (vI ↑i_) rfl (Step.move rfl) ?_
       refine wS (vI (↑i_ + 1)) rfl (Step.add rfl rfl (wrap_i64 (by omega))) ?_
       refine wS (vI (↑i_ + 1)) rfl (Step.assign rfl) ?_
       refine WL.nil ?_
       replace M := M.sel (L' := [tT S18 tb6 (doesR row_ x16) (i_ + 1)]) [2] rfl (by decide)
       exact ⟨_, (by omega), i_ + 1, (doesR row_ x16), rv17, S18, ⟨(by omega), rfl⟩, ⟨rfl, rfl, rfl, rfl, rfl, rfl⟩, M⟩
    ·
     have h57p := of_decide_eq_false h57
     refine W.skip ?_
     refine W.seq' ?_
     refine wR ?_
     refine wS (vI 1) rfl (Step.assign rfl) ?_
     refine WL.nil ?_
     refine W.block ?_
     refine W.loop (fun kk ρ w' => (kk = 0) ∧ ρ.has [(0, v), (3, (vP tb6)), (4, rv17), (5, (vI ↑i_)), (6, rv17), (7, (vB true)), (8, v22), (9, (vI dp_)), (10, (vI 0)), (11, (vI ↑n_)), (13, (vI 1)), (19, (vI ↑i_)), (20, v), (21, (vI ↑l.length)), (22, (vB (decide ((↑i_ : Int) < (↑l.length : Int))))), (25, (Value.tuple #[rv17, (vB true)])), (26, (vP tb6)), (27, rv_), (28, v), (29, (vI ↑i_)), (30, (vQ v i_ 3)), (31, (Value.agg #[(vI x16.do_), (vS x16.k), (vI x16.v)])), (32, (Value.tuple #[rv17, (vB true)])), (33, rv17), (34, (vB true)), (35, rv17), (36, (vP tb6)), (37, v22), (38, (vB true)), (39, (vB false)), (40, (vB false)), (41, (vP tb6)), (42, (vI 0)), (43, (vB false)), (44, (vB false)), (45, (vB false)), (46, v22), (47, v30), (48, rv17), (49, v36), (50, (vB true)), (51, (vB false)), (52, (vB false)), (53, (vI ↑n_)), (54, v22), (55, (vI ↑cs23.length)), (56, (vB (decide ((↑n_ : Int) < (↑cs23.length : Int))))), (83, (vI dp_)), (84, (vB (decide ((dp_ : Int) > (0 : Int)))))] ∧ Mem G (fun _ => False) w [oP v22 cs23, rowsC 9 N_ n_ cs23 ps25, tT S18 tb6 (doesR row_ x16) (i_ + 1)] [fR rv17 (doesR row_ x16), SlAt 3 v l.length (l.flatMap actE)]  w') _ ⟨rfl, ⟨rfl, rfl, rfl, rfl, rfl, rfl, rfl, rfl, rfl, rfl, rfl, rfl, rfl, rfl, rfl, rfl, rfl, rfl, rfl, rfl, rfl, rfl, rfl, rfl, rfl, rfl, rfl, rfl, rfl, rfl, rfl, rfl, rfl, rfl, rfl, rfl, rfl, rfl, rfl, rfl, rfl, rfl, rfl, rfl, rfl, rfl, rfl, rfl, rfl, rfl, rfl⟩, M⟩ ?_
     rintro _ ρ65 w64 ⟨rfl, hρ, M⟩
     obtain ⟨ρ65, rfl⟩ := hρ.know
     clear hρ
     refine W.seq' ?_
     refine wR ?_
     refine wS (vI 1) rfl (Step.move rfl) ?_
     refine wS (vI dp_) rfl (Step.move rfl) ?_
     refine wS (vB (decide ((1 : Int) < (dp_ : Int)))) rfl sP ?_
     refine WL.nil ?_
     refine W.cond (t := decide ((1 : Int) < (dp_ : Int))) rfl (fun h66 => ?_) (fun h66 => ?_)
     ·
      have h66p := of_decide_eq_true h66
      omega
     ·
      have h66p := of_decide_eq_false h66
      refine W.exit ?_
      refine thn_exit ?_
      refine thn_exit ?_
      refine inBlk_hit ?_
      refine wR ?_
      refine wS rv17 rfl (Step.move rfl) ?_
      refine wS (vI (↑((doesR row_ x16).length))) rfl (Step.lenSl Try.un27 rfl (M.rep 0 rfl)) ?_
      refine wS (vI 0) rfl (Step.move rfl) ?_
      refine wS (vB (decide ((↑((doesR row_ x16).length) : Int) < (0 : Int)))) rfl sP ?_
      refine WL.nil ?_
      refine W.cond (t := decide ((↑((doesR row_ x16).length) : Int) < (0 : Int))) rfl (fun h67 => ?_) (fun h67 => ?_)
      ·
       have h67p := of_decide_eq_true h67
       omega
      ·
       have h67p := of_decide_eq_false h67
       refine W.skip ?_
       refine W.region rfl ?_
       refine wS (vI ↑i_) rfl (Step.move rfl) ?_
       refine wS (vI (↑i_ + 1)) rfl (Step.add rfl rfl (wrap_i64 (by omega))) ?_
       refine wS (vI (↑i_ + 1)) rfl (Step.assign rfl) ?_
       refine WL.nil ?_
       replace M := M.sel (L' := [tT S18 tb6 (doesR row_ x16) (i_ + 1)]) [2] rfl (by decide)
       exact ⟨_, (by omega), i_ + 1, (doesR row_ x16), rv17, S18, ⟨(by omega), rfl⟩, ⟨rfl, rfl, rfl, rfl, rfl, rfl⟩, M⟩
  ·
   have h13p := of_decide_eq_false h13
   refine W.exit ?_
   refine thn_exit ?_
   refine thn_exit ?_
   refine inBlk_hit ?_
   refine wR ?_
   refine wS (vP tb6) rfl (Step.move rfl) ?_
   have fq := M.frm [tT S_ tb6 row_ i_] [] [0] rfl
   refine WL.callX rfl (T_check tb6 S_ row_ i_ (by first | assumption | omega) (M.eF fq trivial)) (CallsF.func Try.en33 rfl) ?_
   rintro _ w68 ⟨rfl, m⟩
   replace M := M.lF fq m
   clear m
   refine wS (vB true) rfl sP ?_
   refine wS (vB true) rfl (Step.move rfl) ?_
   refine wS (vP tb6) rfl (Step.move rfl) ?_
   have fq := M.frm [tT S_ tb6 row_ i_] [] [0] rfl
   refine WL.callX rfl (T_all tb6 S_ row_ i_ (by first | assumption | omega) (M.eF fq trivial)) (CallsF.func Try.en38 rfl) ?_
   rintro v69 w70 ⟨_, rfl, m⟩
   replace M := M.lF fq m
   clear m
   have sl71 : IsSl v69 := SlAt.isSl (own_slAt (Mem.chunk M 1 rfl).inv)
   have hle72 := SlAt.le' (own_slAt (Mem.chunk M 1 rfl).inv)
   refine wS rv_ rfl (Step.move rfl) ?_
   refine WL.callX rfl (l_same v69 row_ rv_ (M.enterW0 ⟨((M.wideC0 1 rfl).imp fun _ h => own_slAt h), (M.wideR0 0 rfl), trivial⟩)) (CallsF.func Try.en37 rfl) ?_
   rintro _ w73 ⟨rfl, m⟩
   replace M := M.leaveW0 m
   clear m
   refine wS (vB true) rfl (Step.pick (t := true) rfl rfl) ?_
   refine wS (vB true) rfl (Step.move rfl) ?_
   refine WL.callX rfl (l_works  (M.enterW0 trivial)) (CallsF.func Try.en29 rfl) ?_
   rintro _ w74 ⟨rfl, m⟩
   replace M := M.leaveW0 m
   clear m
   refine wS (vB true) rfl (Step.pick (t := true) rfl rfl) ?_
   refine wS (vB true) rfl (Step.assign rfl) ?_
   refine WL.nil ?_
   refine W.ret ?_
   refine ⟨.inl rfl, (vB true), ?_, ?_⟩
   · exact ⟨rfl, (Res.r1 (show RV _ _ _ (.tmp 2) (vB true) from by exact rfl))⟩
   refine ⟨?_, M.close [] rfl (by decide) trivial⟩
   rfl
end Go.Proofs
