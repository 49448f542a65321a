/- Proved here: lemmas and walks on which the claim stands (part 4 of 7). No condition. -/
import Derived.Test.YtnlnpfpfggbheaaSk3
set_option linter.all false
namespace Tp
open Go
structure NodeMay (l : List RPlace) (n : Nd) : Prop where
  tiny : tinyN n
  lens : n.vals.length = n.keys.length
def lastOk : Nat → List RPlace → Handle → Prop
  | 0, l, h => NodeMay l (rget l h).1 ∧ 1 ≤ (rget l h).1.keys.length ∧ (rget l h).1.leaf = true
  | d + 1, l, h => NodeMay l (rget l h).1 ∧ 1 ≤ (rget l h).1.keys.length ∧ ((rget l h).1.leaf = false → 1 ≤ (rget l h).1.kids.length ∧ lastOk d l ((rget l h).1.kids.getD ((rget l h).1.kids.length - 1) hdZero))
section
variable {l : List RPlace} {h c1 c2 : Handle} {n a b : Nd} {x : THit} {k : ByteArray} {d i : Nat} {lw : Bool}
theorem lastOk_node (hO : lastOk d l h) (hn : (rget l h).1 = n) : tinyN n ∧ n.vals.length = n.keys.length ∧ 1 ≤ n.keys.length := by
  subst hn
  cases d with
  | zero => exact ⟨hO.1.1, hO.1.2, hO.2.1⟩
  | succ d => exact ⟨hO.1.1, hO.1.2, hO.2.1⟩
theorem lastOk_kid (hO : lastOk d l h) (hn : (rget l h).1 = n) (hl : n.leaf = false) : ∃ e, d = e + 1 ∧ 1 ≤ n.kids.length ∧ lastOk e l (n.kids.getD (n.kids.length - 1) hdZero) := by
  subst hn
  cases d with
  | zero => rw [hO.2.2] at hl; cases hl
  | succ d => exact ⟨d, rfl, hO.2.2 hl⟩
theorem lastF_leaf (hn : (rget l h).1 = n) (hl : n.leaf = true) : lastF d l h = ⟨n.keys.getD (n.keys.length - 1) default, n.vals.getD (n.vals.length - 1) 0⟩ := by
  subst hn; cases d <;> (unfold lastF; simp [hl])
theorem lastF_kid (hn : (rget l h).1 = n) (hl : n.leaf = false) : lastF (d + 1) l h = lastF d l (n.kids.getD (n.kids.length - 1) hdZero) := by
  subst hn
  conv => lhs; unfold lastF
  simp only [hl, Bool.false_eq_true, if_false]
structure PairOk (l : List RPlace) (h : Handle) (i : Nat) (n a b : Nd) : Prop where
  small : SmallA l
  n_ : tinyN n
  a_ : tinyN a
  b_ : tinyN b
  nl : n.vals.length = n.keys.length
  al : a.vals.length = a.keys.length
  bl : b.vals.length = b.keys.length
  ik : i < n.keys.length
  kk : n.kids.length = n.keys.length + 1
  a1 : 1 ≤ a.keys.length
  b1 : 1 ≤ b.keys.length
  lf : b.leaf = a.leaf
  ak : a.leaf = false → a.kids.length = a.keys.length + 1
  bk : a.leaf = false → b.kids.length = b.keys.length + 1
def pairOk (l : List RPlace) (h : Handle) (i : Nat) : Prop := PairOk l h i (rget l h).1 (rget l ((rget l h).1.kids.getD i hdZero)).1 (rget l ((rget l h).1.kids.getD (i + 1) hdZero)).1
theorem pairOk_at (hO : pairOk l h i) (hn : (rget l h).1 = n) (h1 : n.kids.getD i hdZero = c1) (h2 : n.kids.getD (i + 1) hdZero = c2) (ha : (rget l c1).1 = a) (hb : (rget l c2).1 = b) : PairOk l h i n a b := by
  subst hn; subst h1; subst h2; subst ha; subst hb; exact hO
theorem pairOk_n (hO : pairOk l h i) (hn : (rget l h).1 = n) : SmallA l ∧ tinyN n ∧ n.vals.length = n.keys.length ∧ i < n.keys.length ∧ n.kids.length = n.keys.length + 1 := by
  subst hn; exact ⟨hO.small, hO.n_, hO.nl, hO.ik, hO.kk⟩
theorem turnF_eq {at_ : Nat} (hn : (rget l h).1 = n) (h1 : n.kids.getD i hdZero = c1) (h2 : n.kids.getD (i + 1) hdZero = c2) (ha : (rget l c1).1 = a) (hb : (rget l c2).1 = b) (hat : (if lw then a.keys.length + 1 else a.keys.length - 1) = at_) :
    turnF l h i lw = (rput (rput (rput l c1 ⟨a.leaf, (a.keys ++ ((n.keys.drop i).take 1 ++ b.keys)).take at_, if a.leaf then a.kids else (a.kids ++ b.kids).take (at_ + 1), (a.vals ++ ((n.vals.drop i).take 1 ++ b.vals)).take at_⟩).1 c2
      ⟨b.leaf, (a.keys ++ ((n.keys.drop i).take 1 ++ b.keys)).drop (at_ + 1), if a.leaf then b.kids else (a.kids ++ b.kids).drop (at_ + 1), (a.vals ++ ((n.vals.drop i).take 1 ++ b.vals)).drop (at_ + 1)⟩).1 h
      ⟨n.leaf, n.keys.set i ((a.keys ++ ((n.keys.drop i).take 1 ++ b.keys)).getD at_ default), n.kids, n.vals.set i ((a.vals ++ ((n.vals.drop i).take 1 ++ b.vals)).getD at_ 0)⟩).1 := by
  subst hn; subst h1; subst h2; subst ha; subst hb; subst hat; rfl
theorem joinF_eq (hn : (rget l h).1 = n) (h1 : n.kids.getD i hdZero = c1) (h2 : n.kids.getD (i + 1) hdZero = c2) (ha : (rget l c1).1 = a) (hb : (rget l c2).1 = b) :
    joinF l h i = (rput (rfree (rput l c1 ⟨a.leaf, a.keys ++ ((n.keys.drop i).take 1 ++ b.keys), a.kids ++ b.kids, a.vals ++ ((n.vals.drop i).take 1 ++ b.vals)⟩).1 [c2]).1 h ⟨n.leaf, n.keys.eraseIdx i, n.kids.eraseIdx (i + 1), n.vals.eraseIdx i⟩).1 := by
  subst hn; subst h1; subst h2; subst ha; subst hb; rfl
theorem SmallA.free (hA : SmallA l) : SmallA (rfree l [h]).1 := by
  cases hh : rhas l h with
  | false => rw [rfree_miss (by simp [freeable, hh])]; exact hA
  | true =>
    obtain ⟨p, hp, hu, ht, h0, hlt⟩ := rhas_place hh
    obtain ⟨g1, g2, g3⟩ := hA.2 _ _ hp
    rw [free_is hh]
    exact hA.setp (by simp only; omega) (by simp only; omega) ⟨by simp [ndZero], by simp [ndZero], by simp [ndZero]⟩
def mendOk (l : List RPlace) (h : Handle) (i : Nat) : Prop := SmallA l ∧ tinyN (rget l h).1 ∧ i < (rget l h).1.kids.length ∧ 2 ≤ (rget l h).1.kids.length ∧
  (¬ 2 ≤ (rget l ((rget l h).1.kids.getD i hdZero)).1.keys.length → (0 < i → pairOk l h (i - 1)) ∧ (i + 1 < (rget l h).1.kids.length → pairOk l h i))
theorem mendOk_n (hO : mendOk l h i) (hn : (rget l h).1 = n) : SmallA l ∧ tinyN n ∧ i < n.kids.length ∧ 2 ≤ n.kids.length := by
  subst hn; exact ⟨hO.1, hO.2.1, hO.2.2.1, hO.2.2.2.1⟩
theorem mendOk_pair (hO : mendOk l h i) (hn : (rget l h).1 = n) (h1 : n.kids.getD i hdZero = c1) (ha : (rget l c1).1 = a) (h2 : ¬ 2 ≤ a.keys.length) : (0 < i → pairOk l h (i - 1)) ∧ (i + 1 < n.kids.length → pairOk l h i) := by
  subst hn; subst h1; subst ha; exact hO.2.2.2.2 h2
theorem mend_keep (hn : (rget l h).1 = n) (h1 : n.kids.getD i hdZero = c1) (ha : (rget l c1).1 = a) (h2 : 2 ≤ a.keys.length) : mendF l h i = l := by
  subst hn; subst h1; subst ha; unfold mendF; simp only; rw [if_pos h2]
theorem mend_go (hn : (rget l h).1 = n) (h1 : n.kids.getD i hdZero = c1) (ha : (rget l c1).1 = a) (h2 : ¬ 2 ≤ a.keys.length) :
    mendF l h i = if richF l n ((i : Int) - 1) then turnF l h (i - 1) false else if richF l n ((i : Int) + 1) then turnF l h i true else if 0 < i then joinF l h (i - 1) else joinF l h i := by
  subst hn; subst h1; subst ha; unfold mendF; simp only; rw [if_neg h2]
theorem rich_low {j : Int} (h : richF l n j = true) : 0 ≤ j ∧ j < n.kids.length := by
  unfold richF at h
  simp only [Bool.and_eq_true, decide_eq_true_eq] at h
  exact h.1
def remOk : Nat → List RPlace → Handle → ByteArray → Prop
  | 0, l, h, k => NodeOk l (rget l h).1 ∧ bsF (rget l h).1.keys k = true ∧ (rget l h).1.leaf = true
  | d + 1, l, h, k => NodeOk l (rget l h).1 ∧
    (bsF (rget l h).1.keys k = true → (rget l h).1.leaf = false → (rget l h).1.kids.length = (rget l h).1.keys.length + 1 ∧ lastOk d l ((rget l h).1.kids.getD (bsI (rget l h).1.keys k) hdZero) ∧
      remOk d (rput l h ⟨(rget l h).1.leaf, (rget l h).1.keys.set (bsI (rget l h).1.keys k) (lastF d l ((rget l h).1.kids.getD (bsI (rget l h).1.keys k) hdZero)).key, (rget l h).1.kids, (rget l h).1.vals.set (bsI (rget l h).1.keys k) (lastF d l ((rget l h).1.kids.getD (bsI (rget l h).1.keys k) hdZero)).val⟩).1 ((rget l h).1.kids.getD (bsI (rget l h).1.keys k) hdZero) (lastF d l ((rget l h).1.kids.getD (bsI (rget l h).1.keys k) hdZero)).key ∧
      mendOk (remF d (rput l h ⟨(rget l h).1.leaf, (rget l h).1.keys.set (bsI (rget l h).1.keys k) (lastF d l ((rget l h).1.kids.getD (bsI (rget l h).1.keys k) hdZero)).key, (rget l h).1.kids, (rget l h).1.vals.set (bsI (rget l h).1.keys k) (lastF d l ((rget l h).1.kids.getD (bsI (rget l h).1.keys k) hdZero)).val⟩).1 ((rget l h).1.kids.getD (bsI (rget l h).1.keys k) hdZero) (lastF d l ((rget l h).1.kids.getD (bsI (rget l h).1.keys k) hdZero)).key) h (bsI (rget l h).1.keys k)) ∧
    (bsF (rget l h).1.keys k = false → (rget l h).1.kids.length = (rget l h).1.keys.length + 1 ∧ remOk d l ((rget l h).1.kids.getD (bsI (rget l h).1.keys k) hdZero) k ∧ mendOk (remF d l ((rget l h).1.kids.getD (bsI (rget l h).1.keys k) hdZero) k) h (bsI (rget l h).1.keys k))
theorem remOk_node (hO : remOk d l h k) (hn : (rget l h).1 = n) : NodeOk l n := by
  subst hn
  cases d with
  | zero => exact hO.1
  | succ d => exact hO.1
theorem remOk_hit (hO : remOk d l h k) (hn : (rget l h).1 = n) (hf : bsF n.keys k = true) (hl : n.leaf = false) : ∃ e, d = e + 1 ∧ n.kids.length = n.keys.length + 1 ∧ ∀ c, n.kids.getD (bsI n.keys k) hdZero = c → lastOk e l c ∧
    remOk e (rput l h ⟨n.leaf, n.keys.set (bsI n.keys k) (lastF e l c).key, n.kids, n.vals.set (bsI n.keys k) (lastF e l c).val⟩).1 c (lastF e l c).key ∧
    mendOk (remF e (rput l h ⟨n.leaf, n.keys.set (bsI n.keys k) (lastF e l c).key, n.kids, n.vals.set (bsI n.keys k) (lastF e l c).val⟩).1 c (lastF e l c).key) h (bsI n.keys k) := by
  subst hn
  cases d with
  | zero => rw [hO.2.2] at hl; cases hl
  | succ d => exact ⟨d, rfl, (hO.2.1 hf hl).1, fun c hc => by subst hc; exact (hO.2.1 hf hl).2⟩
theorem remOk_miss (hO : remOk d l h k) (hn : (rget l h).1 = n) (hf : bsF n.keys k = false) : ∃ e, d = e + 1 ∧ n.kids.length = n.keys.length + 1 ∧ ∀ c, n.kids.getD (bsI n.keys k) hdZero = c → remOk e l c k ∧ mendOk (remF e l c k) h (bsI n.keys k) := by
  subst hn
  cases d with
  | zero => rw [hO.2.1] at hf; cases hf
  | succ d => exact ⟨d, rfl, (hO.2.2 hf).1, fun c hc => by subst hc; exact (hO.2.2 hf).2⟩
theorem remF_leaf (hn : (rget l h).1 = n) (hf : bsF n.keys k = true) (hl : n.leaf = true) : remF d l h k = (rput l h ⟨n.leaf, n.keys.eraseIdx (bsI n.keys k), n.kids, n.vals.eraseIdx (bsI n.keys k)⟩).1 := by
  subst hn; cases d <;> (unfold remF; simp [hf, hl])
theorem remF_hit (hn : (rget l h).1 = n) (hf : bsF n.keys k = true) (hl : n.leaf = false) (hc : n.kids.getD (bsI n.keys k) hdZero = c1) :
    remF (d + 1) l h k = mendF (remF d (rput l h ⟨n.leaf, n.keys.set (bsI n.keys k) (lastF d l c1).key, n.kids, n.vals.set (bsI n.keys k) (lastF d l c1).val⟩).1 c1 (lastF d l c1).key) h (bsI n.keys k) := by
  subst hn; subst hc
  conv => lhs; unfold remF
  simp only [hf, hl, if_true, Bool.false_eq_true, if_false]
theorem remF_miss (hn : (rget l h).1 = n) (hf : bsF n.keys k = false) (hc : n.kids.getD (bsI n.keys k) hdZero = c1) : remF (d + 1) l h k = mendF (remF d l c1 k) h (bsI n.keys k) := by
  subst hn; subst hc
  conv => lhs; unfold remF
  simp only [hf, Bool.false_eq_true, if_false]
end
end Tp
set_option maxRecDepth 100000
namespace Go.Proofs
open Go Tp
theorem Try.el41 : Elem Try.prog 41 (Value.agg #[(vS sZ), (vI 0)]) 2 24 := Elem.mk (by kernel_rfl)
theorem Try.en91 : Enters Try.prog 91 := fun _ _ => by kernel_rfl
theorem tr_last : ∀ (d : Nat) {G X : Nat → Prop} {w : World} (tb ab : Nat) (r : Handle) (fu : Bool) (ln : Int) (l : List RPlace) (S : Nat → Prop) (h : Handle)  (hA : SmallA l) (hO : lastOk d l h) (M : Mem G X w [arenaC 143 145 S ab l] [bF tb #[(vP ab), (vI r.at_), (vI r.turn), (vB fu), (vI ln)] 94] w), Rets Try.prog 91 #[(vP tb), (Value.agg #[(vI h.at_), (vI h.turn)])] w fun r w' => r = (Value.agg #[(vS ((lastF d l h).key)), (vI ((lastF d l h).val))]) ∧ Mem G X w [arenaC 143 145 S ab l] [] w' := by
 intro d
 induction d using Nat.strongRecOn
 rename_i d ih
 intro G X w tb ab r fu ln l S h hA hO M
 refine Rets.enter 39 _ Try.func91 rfl Try.ntmps91 Try.results91 (by simp) ?_
 obtain ⟨n, hn⟩ : ∃ n, (rget l h).1 = n := ⟨_, rfl⟩
 obtain ⟨hty, hvl, hk0_⟩ := lastOk_node hO hn
 obtain ⟨ht1, ht2, ht3⟩ := hty
 refine wR ?_
 refine WL.box (v := (Value.agg #[(vI h.at_), (vI h.turn)])) (c := #[(vI h.at_), (vI h.turn)]) M rfl rfl rfl (fun b1 w2 hb1 M => ?_)
 refine WL.alloc (c := #[(vS sZ), (vI 0)]) M rfl Try.el41.zero rfl (fun b3 w4 hb3 M => ?_)
 refine WL.nil (wR (wM (vP tb) (wS (Value.agg #[(vI h.at_), (vI h.turn)]) rfl (Step.loadN Try.ag92 rfl (M.blk 1 rfl) (nL rfl) rfl) ?_)))
 have fq := M.frm [arenaC 143 145 S ab l] [bk b3 #[(vS sZ), (vI 0)] 41, bk b1 #[(vI h.at_), (vI h.turn)] 92] [2, 0, 1] rfl
 refine WL.callX rfl (tr_node tb ab r fu ln l S h (by assumption) n hn (M.eF fq ⟨(M.rF fq 0 rfl), trivial⟩)) (CallsF.func Try.en49 rfl) ?_
 rintro _ w8 ⟨kv5, dv6, vv7, rfl, m⟩
 replace M := M.lF fq m
 clear m
 have sl9 : IsSl kv5 := SlAt.isSl (oW (Mem.chunk M 1 rfl).inv)
 have hle10 := SlAt.le' (oW (Mem.chunk M 1 rfl).inv)
 have sl11 : IsSl dv6 := SlAt.isSl (oW (Mem.chunk M 2 rfl).inv)
 have hle12 := SlAt.le' (oW (Mem.chunk M 2 rfl).inv)
 have sl13 : IsSl vv7 := SlAt.isSl (oW (Mem.chunk M 3 rfl).inv)
 have hle14 := SlAt.le' (oW (Mem.chunk M 3 rfl).inv)
 refine WL.alloc (c := #[(vB false), vZ, vZ, vZ]) M rfl Try.el99.zero rfl (fun b15 w16 hb15 M => ?_)
 refine WL.store (v := (Value.agg #[(vB n.leaf), kv5, dv6, vv7])) (cs := [(vB n.leaf), kv5, dv6, vv7]) (c' := #[(vB n.leaf), kv5, dv6, vv7]) M 0 rfl rfl Try.el99.sized rfl rfl rfl rfl (nL rfl) (cC rfl (cC (IsSl.cel sl9) (cC (IsSl.cel sl11) (cC (IsSl.cel sl13) cel_nil)))) rfl rfl (fun w17 M => ?_)
 refine WL.nil (W.seq' (wR (wP (vP b15) (wS (vB n.leaf) rfl (Step.load1 Try.sc4 rfl ((M.cell 0 rfl 0).trans rfl)) (wP (vB !n.leaf) (WL.nil ?_))))))
 refine W.cond (t := !n.leaf) rfl (fun h18 => ?_) (fun h18 => ?_)
 ·
  have hlf_ : n.leaf = false := by simpa using h18
  obtain ⟨e, rfl, hk1_, hO2⟩ := lastOk_kid hO hn hlf_
  refine W.seq' ?_
  replace M := M.loseI 6
  refine W.region rfl (wM (vP tb) (wP (Value.pointer (some ⟨b15, 2, none⟩)) (wS dv6 rfl (Step.load1 Try.sc96 rfl ((M.cell 0 rfl 2).trans rfl)) (wP (Value.pointer (some ⟨b15, 2, none⟩)) (wS dv6 rfl (Step.load1 Try.sc96 rfl ((M.cell 0 rfl 2).trans rfl)) (wS (vI ↑n.kids.length) rfl (Step.lenSl Try.un96 rfl (oW (M.chunk 3 rfl).inv)) (wS (vI (↑(n.kids.length - 1))) rfl (Step.cast (congrArg (Value.int .i64) (show ((↑n.kids.length : Int) - 1 : Int) = ↑(n.kids.length - 1) by omega)) (Step.sub rfl rfl (wrap_i64 (by omega)))) ?_)))))))
  obtain ⟨cap20, hb19⟩ := SlAt.base (oW (M.chunk 3 rfl).inv) (by omega)
  obtain ⟨x21, hx21⟩ := elem_of_lt (xs := n.kids) (i := n.kids.length - 1) (by omega)
  have hgd_ : n.kids.getD (n.kids.length - 1) hdZero = x21 := by rw [List.getD_eq_getElem?_getD, hx21]; rfl
  rw [hgd_] at hO2
  refine wS (vQ dv6 (n.kids.length - 1) 2) rfl (sX (n.kids.length - 1) Try.un96 Try.el92 rfl rfl hb19) (wS (Value.agg #[(vI x21.at_), (vI x21.turn)]) rfl (Step.loadEN (k := 0) (cs' := [(vI x21.at_), (vI x21.turn)]) Try.ag92 (flat_ec (oW (M.chunk 3 rfl).inv) hx21 handleE_len) (by decide) rfl rfl rfl) ?_)
  have fq := M.frm [arenaC 143 145 S ab l] [bk b15 #[(vB n.leaf), kv5, dv6, vv7] 99, oS kv5 n.keys, oH dv6 n.kids, oI vv7 n.vals, bk b3 #[(vS sZ), (vI 0)] 41] [1, 0, 2, 3, 4, 5] rfl
  refine WL.callX rfl (ih e (by omega) tb ab r fu ln l S x21 (by assumption) (by assumption) (M.eF fq ⟨(M.rF fq 0 rfl), trivial⟩)) (CallsF.func Try.en91 rfl) ?_
  rintro _ w22 ⟨rfl, m⟩
  replace M := M.lF fq m
  clear m
  refine WL.store (v := (Value.agg #[(vS ((lastF e l x21).key)), (vI ((lastF e l x21).val))])) (cs := [(vS ((lastF e l x21).key)), (vI ((lastF e l x21).val))]) (c' := #[(vS ((lastF e l x21).key)), (vI ((lastF e l x21).val))]) M 5 rfl rfl Try.el41.sized rfl rfl rfl rfl (nL rfl) (cC rfl (cC rfl cel_nil)) rfl rfl (fun w23 M => ?_)
  refine WL.nil ?_
  refine W.ret ?_
  refine ⟨.inl rfl, (Value.agg #[(vS ((lastF e l x21).key)), (vI ((lastF e l x21).val))]), ?_, ?_⟩
  · exact ⟨rfl, (Res.r1 (RV.cellN Try.ag41 rfl (M.blk 5 rfl) rfl))⟩
  refine ⟨?_, M.close [0] rfl (by decide) trivial⟩
  rw [lastF_kid hn hlf_, hgd_]
 ·
  have hlf_ : n.leaf = true := by simpa using h18
  refine W.skip (W.seq' ?_)
  replace M := M.loseI 6
  obtain ⟨cap25, hb24⟩ := SlAt.base (oW (M.chunk 2 rfl).inv) (by omega)
  obtain ⟨x26, hx26⟩ := elem_of_lt (xs := n.keys) (i := n.keys.length - 1) (by omega)
  obtain ⟨cap28, hb27⟩ := SlAt.base (oW (M.chunk 4 rfl).inv) (by omega)
  obtain ⟨x29, hx29⟩ := elem_of_lt (xs := n.vals) (i := n.vals.length - 1) (by omega)
  refine W.drawn M [0, 1, 2, 3, 4, 5, 6, 7, 8, 9, 10, 11, 12, 13, 14, 15, 16, 17] [17] [] _ _ (sY (sY (sY (sY (sY (sN sE)))))) (fun _ h => h) Try.mixed (by kernel_rfl) ?_
  refine tQ (Value.pointer (some ⟨b15, 1, none⟩)) rfl (tR kv5 rfl (fun A w M => (Step.load1 Try.sc22 rfl ((M.cell 1 rfl 1).trans rfl))) (tQ (Value.pointer (some ⟨b15, 1, none⟩)) rfl (tR kv5 rfl (fun A w M => (Step.load1 Try.sc22 rfl ((M.cell 1 rfl 1).trans rfl))) (tR (vI ↑n.keys.length) rfl (fun A w M => (Step.lenSl Try.un22 rfl (oW (M.chunk 3 rfl).inv))) (tP (vI (↑(n.keys.length - 1))) rfl (fun w => (Step.cast (congrArg (Value.int .i64) (show ((↑n.keys.length : Int) - 1 : Int) = ↑(n.keys.length - 1) by omega)) (Step.sub rfl rfl (wrap_i64 (by omega))))) (tP (vQ kv5 (n.keys.length - 1) 1) rfl (fun w => (sX (n.keys.length - 1) Try.un22 Try.el9 rfl rfl hb24)) (tR (vS x26) rfl (fun A w M => (Step.loadE (k := 0) Try.sc9 (flat_ec (oW (M.chunk 3 rfl).inv) hx26 strE_len) (by decide) rfl rfl)) (tQ (Value.pointer (some ⟨b15, 3, none⟩)) rfl (tR vv7 rfl (fun A w M => (Step.load1 Try.sc97 rfl ((M.cell 1 rfl 3).trans rfl))) (tQ (Value.pointer (some ⟨b15, 3, none⟩)) rfl (tR vv7 rfl (fun A w M => (Step.load1 Try.sc97 rfl ((M.cell 1 rfl 3).trans rfl))) (tR (vI ↑n.vals.length) rfl (fun A w M => (Step.lenSl Try.un97 rfl (oW (M.chunk 5 rfl).inv))) (tP (vI (↑(n.vals.length - 1))) rfl (fun w => (Step.cast (congrArg (Value.int .i64) (show ((↑n.vals.length : Int) - 1 : Int) = ↑(n.vals.length - 1) by omega)) (Step.sub rfl rfl (wrap_i64 (by omega))))) (tP (vQ vv7 (n.vals.length - 1) 1) rfl (fun w => (sX (n.vals.length - 1) Try.un97 Try.el3 rfl rfl hb27)) (tR (vI x29) rfl (fun A w M => (Step.loadE (k := 0) Try.sc3 (flat_ec (oW (M.chunk 5 rfl).inv) hx29 intE_len) (by decide) rfl rfl)) (tQ (Value.agg #[(vS x26), (vI x29)]) rfl ?_))))))))))))))))
  refine TW.store (v := (Value.agg #[(vS x26), (vI x29)])) (cs := [(vS x26), (vI x29)]) (c' := #[(vS x26), (vI x29)]) 5 rfl rfl (by decide) rfl Try.el41.sized rfl rfl rfl rfl (nL rfl) (cC rfl (cC rfl cel_nil)) rfl rfl (sY (sY (sY (sY (sY (sN sE)))))) (fun r h => h) ?_
  refine TW.done (fun w32 M => ?_)
  refine W.ret ?_
  refine ⟨.inl rfl, (Value.agg #[(vS x26), (vI x29)]), ?_, ?_⟩
  · exact ⟨rfl, (Res.r1 (RV.cellN Try.ag41 rfl (M.blk 5 rfl) rfl))⟩
  refine ⟨?_, M.close [1] rfl (by decide) trivial⟩
  rw [lastF_leaf hn hlf_]; simp [h18, hx26, hx29]
end Go.Proofs
set_option maxRecDepth 100000
namespace Go.Proofs
open Go Tp
theorem Try.en127 : Enters Try.prog 127 := fun _ _ => by kernel_rfl
theorem Try.en128 : Enters Try.prog 128 := fun _ _ => by kernel_rfl
theorem Try.en129 : Enters Try.prog 129 := fun _ _ => by kernel_rfl
set_option maxHeartbeats 4000000 in
theorem tr_turn {G X : Nat → Prop} {w : World} (tb ab : Nat) (r : Handle) (fu : Bool) (ln : Int) (l : List RPlace) (S : Nat → Prop) (h : Handle) (i : Nat) (lw : Bool)  (hO : pairOk l h i) (M : Mem G X w [arenaC 143 145 S ab l] [bF tb #[(vP ab), (vI r.at_), (vI r.turn), (vB fu), (vI ln)] 94] w) : Rets Try.prog 119 #[(vP tb), (Value.agg #[(vI h.at_), (vI h.turn)]), (vI ↑i), (vB lw)] w fun r w' => ∃ (S' : Nat → Prop), r = undef ∧ Mem G X w [arenaC 143 145 S' ab (turnF l h i lw)] [] w' := by
 refine Rets.enter 140 _ Try.func119 rfl Try.ntmps119 Try.results119 (by simp) ?_
 obtain ⟨n, hn⟩ : ∃ n, (rget l h).1 = n := ⟨_, rfl⟩
 obtain ⟨hA, hty, hvl, hin_, hkn_⟩ := pairOk_n hO hn
 obtain ⟨ht1, ht2, ht3⟩ := hty
 refine wR ?_
 refine WL.box (v := (Value.agg #[(vI h.at_), (vI h.turn)])) (c := #[(vI h.at_), (vI h.turn)]) M rfl rfl rfl (fun b1 w2 hb1 M => ?_)
 refine WL.nil (wR (wM (vP tb) (wS (Value.agg #[(vI h.at_), (vI h.turn)]) rfl (Step.loadN Try.ag92 rfl (M.blk 0 rfl) (nL rfl) rfl) ?_)))
 have fq := M.frm [arenaC 143 145 S ab l] [bk b1 #[(vI h.at_), (vI h.turn)] 92] [1, 0] rfl
 refine WL.callX rfl (tr_node tb ab r fu ln l S h (by assumption) n hn (M.eF fq ⟨(M.rF fq 0 rfl), trivial⟩)) (CallsF.func Try.en49 rfl) ?_
 rintro _ w6 ⟨kv3, dv4, vv5, rfl, m⟩
 replace M := M.lF fq m
 clear m
 have sl7 : IsSl kv3 := SlAt.isSl (oW (Mem.chunk M 1 rfl).inv)
 have hle8 := SlAt.le' (oW (Mem.chunk M 1 rfl).inv)
 have sl9 : IsSl dv4 := SlAt.isSl (oW (Mem.chunk M 2 rfl).inv)
 have hle10 := SlAt.le' (oW (Mem.chunk M 2 rfl).inv)
 have sl11 : IsSl vv5 := SlAt.isSl (oW (Mem.chunk M 3 rfl).inv)
 have hle12 := SlAt.le' (oW (Mem.chunk M 3 rfl).inv)
 refine WL.alloc (c := #[(vB false), vZ, vZ, vZ]) M rfl Try.el99.zero rfl (fun b13 w14 hb13 M => ?_)
 refine WL.store (v := (Value.agg #[(vB n.leaf), kv3, dv4, vv5])) (cs := [(vB n.leaf), kv3, dv4, vv5]) (c' := #[(vB n.leaf), kv3, dv4, vv5]) M 0 rfl rfl Try.el99.sized rfl rfl rfl rfl (nL rfl) (cC rfl (cC (IsSl.cel sl7) (cC (IsSl.cel sl9) (cC (IsSl.cel sl11) cel_nil)))) rfl rfl (fun w15 M => ?_)
 refine WL.nil (W.seq' ?_)
 obtain ⟨cap17, hb16⟩ := SlAt.base (oW (M.chunk 3 rfl).inv) (by omega)
 obtain ⟨x18, hx18⟩ := elem_of_lt (xs := n.kids) (i := i) (by omega)
 have hgd1_ : n.kids.getD i hdZero = x18 := by rw [List.getD_eq_getElem?_getD, hx18]; rfl
 obtain ⟨x22, hx22⟩ := elem_of_lt (xs := n.kids) (i := i + 1) (by omega)
 have hgd2_ : n.kids.getD (i + 1) hdZero = x22 := by rw [List.getD_eq_getElem?_getD, hx22]; rfl
 refine W.drawn M [0, 1, 2, 3, 4, 5, 6, 7, 8, 9, 10, 11, 12, 13, 14, 15, 16, 17, 18] [6, 14, 17, 18] [15, 16] _ _ (sY (sY (sY (sY (sY (sY sE)))))) (fun _ h => h) Try.mixed (by kernel_rfl) ?_
 refine tM (vP tb) rfl (tQ (Value.pointer (some ⟨b13, 2, none⟩)) rfl (tR dv4 rfl (fun A w M => (Step.load1 Try.sc96 rfl ((M.cell 1 rfl 2).trans rfl))) (tM (vI ↑i) rfl (tP (vQ dv4 i 2) rfl (fun w => (sX i Try.un96 Try.el92 rfl rfl hb16)) (tR (Value.agg #[(vI x18.at_), (vI x18.turn)]) rfl (fun A w M => (Step.loadEN (k := 0) (cs' := [(vI x18.at_), (vI x18.turn)]) Try.ag92 (flat_ec (oW (M.chunk 4 rfl).inv) hx18 handleE_len) (by decide) rfl rfl rfl)) ?_)))))
 obtain ⟨na_, hna_⟩ : ∃ n, (rget l x18).1 = n := ⟨_, rfl⟩
 let Q : List Chunk := [bk b13 #[(vB n.leaf), kv3, dv4, vv5] 99, oS kv3 n.keys, oH dv4 n.kids, oI vv5 n.vals, bk b1 #[(vI h.at_), (vI h.turn)] 92]
 refine TW.callX (ι := Value × Value × Value) (fun jx v_ => v_ = (Value.agg #[(vB na_.leaf), jx.1, jx.2.1, jx.2.2])) (fun jx => [oS jx.1 na_.keys, oH jx.2.1 na_.kids, oI jx.2.2 na_.vals, bk b13 #[(vB n.leaf), kv3, dv4, vv5] 99, arenaC 143 145 S ab l, oS kv3 n.keys, oH dv4 n.kids, oI vv5 n.vals, bk b1 #[(vI h.at_), (vI h.turn)] 92]) (fun jx => [bF tb #[(vP ab), (vI r.at_), (vI r.turn), (vB fu), (vI ln)] 94]) rfl (by decide) rfl (fun jx => (sN (sN (sN (sY (sY (sY (sY (sY (sY sE)))))))))) (fun jx r h => h) (fun A w M => have fq := M.frm [arenaC 143 145 S ab l] (fl A :: Q) [2, 0, 1, 3, 4, 5, 6] rfl; Rets.mono (tr_node tb ab r fu ln l S x18 (by assumption) na_ hna_ (M.eF fq ⟨(M.rF fq 0 rfl), trivial⟩)) (fun v_ w_ ⟨kv44, dv45, vv46, e_, m⟩ => ⟨(kv44, dv45, vv46), e_, (M.lF fq m).sel [4, 1, 2, 3, 5, 0, 6, 7, 8, 9] rfl (by decide), fun b hb => M.kF fq m b hb⟩)) (fun w => CallsF.func Try.en49 rfl) (fun jx v hp hin => ?_)
 obtain ⟨kv44, dv45, vv46⟩ := jx
 replace hp := hp.symm; subst hp
 obtain ⟨_, _, hin⟩ := hin
 have sl47 : IsSl kv44 := SlAt.isSl (oW (Mem.chunk hin 1 rfl).inv)
 have hle48 := SlAt.le' (oW (Mem.chunk hin 1 rfl).inv)
 have sl49 : IsSl dv45 := SlAt.isSl (oW (Mem.chunk hin 2 rfl).inv)
 have hle50 := SlAt.le' (oW (Mem.chunk hin 2 rfl).inv)
 have sl51 : IsSl vv46 := SlAt.isSl (oW (Mem.chunk hin 3 rfl).inv)
 have hle52 := SlAt.le' (oW (Mem.chunk hin 3 rfl).inv)
 clear hin
 refine tM (vP tb) rfl (tQ (Value.pointer (some ⟨b13, 2, none⟩)) rfl (tR dv4 rfl (fun A w M => (Step.load1 Try.sc96 rfl ((M.cell 1 rfl 2).trans rfl))) (tM (vI ↑i) rfl (tP (vI (↑(i + 1))) rfl (fun w => (Step.cast (congrArg (Value.int .i64) (show (↑i + 1 : Int) = ↑(i + 1) by omega)) (Step.add rfl rfl (wrap_i64 (by omega))))) (tP (vQ dv4 (i + 1) 2) rfl (fun w => (sX (i + 1) Try.un96 Try.el92 rfl rfl hb16)) (tR (Value.agg #[(vI x22.at_), (vI x22.turn)]) rfl (fun A w M => (Step.loadEN (k := 0) (cs' := [(vI x22.at_), (vI x22.turn)]) Try.ag92 (flat_ec (oW (M.chunk 4 rfl).inv) hx22 handleE_len) (by decide) rfl rfl rfl)) ?_))))))
 obtain ⟨nb_, hnb_⟩ : ∃ n, (rget l x22).1 = n := ⟨_, rfl⟩
 have hP := pairOk_at hO hn hgd1_ hgd2_ hna_ hnb_
 obtain ⟨hta1, hta2, hta3⟩ := hP.a_
 obtain ⟨htb1, htb2, htb3⟩ := hP.b_
 have hal_ := hP.al
 have hbl_ := hP.bl
 have ha1_ := hP.a1
 have hb1_ := hP.b1
 have hlfb_ := hP.lf
 let Q : List Chunk := [oS kv44 na_.keys, oH dv45 na_.kids, oI vv46 na_.vals, bk b13 #[(vB n.leaf), kv3, dv4, vv5] 99, oS kv3 n.keys, oH dv4 n.kids, oI vv5 n.vals, bk b1 #[(vI h.at_), (vI h.turn)] 92]
 refine TW.callX (ι := Value × Value × Value) (fun jx v_ => v_ = (Value.agg #[(vB nb_.leaf), jx.1, jx.2.1, jx.2.2])) (fun jx => [oS jx.1 nb_.keys, oH jx.2.1 nb_.kids, oI jx.2.2 nb_.vals, oS kv44 na_.keys, oH dv45 na_.kids, oI vv46 na_.vals, bk b13 #[(vB n.leaf), kv3, dv4, vv5] 99, arenaC 143 145 S ab l, oS kv3 n.keys, oH dv4 n.kids, oI vv5 n.vals, bk b1 #[(vI h.at_), (vI h.turn)] 92]) (fun jx => [bF tb #[(vP ab), (vI r.at_), (vI r.turn), (vB fu), (vI ln)] 94]) rfl (by decide) rfl (fun jx => (sN (sN (sN (sN (sN (sN (sY (sY (sY (sY (sY (sY sE))))))))))))) (fun jx r h => h) (fun A w M => have fq := M.frm [arenaC 143 145 S ab l] (fl A :: Q) [5, 0, 1, 2, 3, 4, 6, 7, 8, 9] rfl; Rets.mono (tr_node tb ab r fu ln l S x22 (by assumption) nb_ hnb_ (M.eF fq ⟨(M.rF fq 0 rfl), trivial⟩)) (fun v_ w_ ⟨kv53, dv54, vv55, e_, m⟩ => ⟨(kv53, dv54, vv55), e_, (M.lF fq m).sel [4, 1, 2, 3, 5, 6, 7, 8, 0, 9, 10, 11, 12] rfl (by decide), fun b hb => M.kF fq m b hb⟩)) (fun w => CallsF.func Try.en49 rfl) (fun jx v hp hin => ?_)
 obtain ⟨kv53, dv54, vv55⟩ := jx
 replace hp := hp.symm; subst hp
 obtain ⟨_, _, hin⟩ := hin
 have sl56 : IsSl kv53 := SlAt.isSl (oW (Mem.chunk hin 1 rfl).inv)
 have hle57 := SlAt.le' (oW (Mem.chunk hin 1 rfl).inv)
 have sl58 : IsSl dv54 := SlAt.isSl (oW (Mem.chunk hin 2 rfl).inv)
 have hle59 := SlAt.le' (oW (Mem.chunk hin 2 rfl).inv)
 have sl60 : IsSl vv55 := SlAt.isSl (oW (Mem.chunk hin 3 rfl).inv)
 have hle61 := SlAt.le' (oW (Mem.chunk hin 3 rfl).inv)
 clear hin
 refine TW.new (obj := .cells #[(vB false), vZ, vZ, vZ] 99) (fun b => .pointer (some ⟨b, 0, none⟩)) rfl (by decide) (by decide) rfl (fun w => Step.alloc Try.el99.zero) (fun b62 => ?_)
 refine TW.new (obj := .cells #[(vB false), vZ, vZ, vZ] 99) (fun b => .pointer (some ⟨b, 0, none⟩)) rfl (by decide) (by decide) rfl (fun w => Step.alloc Try.el99.zero) (fun b63 => ?_)
 refine TW.store (v := (Value.agg #[(vB na_.leaf), kv44, dv45, vv46])) (cs := [(vB na_.leaf), kv44, dv45, vv46]) (c' := #[(vB na_.leaf), kv44, dv45, vv46]) 1 rfl rfl (by decide) rfl Try.el99.sized rfl rfl rfl rfl (nL rfl) (cC rfl (cC (IsSl.cel sl47) (cC (IsSl.cel sl49) (cC (IsSl.cel sl51) cel_nil)))) rfl rfl (sN (sN (sN (sN (sN (sN (sN (sN (sY (sY (sY (sY (sY (sY sE)))))))))))))) (fun r h => h) ?_
 refine TW.store (v := (Value.agg #[(vB nb_.leaf), kv53, dv54, vv55])) (cs := [(vB nb_.leaf), kv53, dv54, vv55]) (c' := #[(vB nb_.leaf), kv53, dv54, vv55]) 0 rfl rfl (by decide) rfl Try.el99.sized rfl rfl rfl rfl (nL rfl) (cC rfl (cC (IsSl.cel sl56) (cC (IsSl.cel sl58) (cC (IsSl.cel sl60) cel_nil)))) rfl rfl (sN (sN (sN (sN (sN (sN (sN (sN (sY (sY (sY (sY (sY (sY sE)))))))))))))) (fun r h => h) ?_
 refine TW.done (fun w64 M => ?_)
 refine W.seq' ?_
 have hsh65 := SlAt.shp (oW (M.chunk 10 rfl).inv)
 have hsh65c := hsh65
 obtain ⟨_, _, hsh65l, hsh65m⟩ := hsh65c
 refine W.drawn M [0, 1, 2, 3, 4, 5, 6, 7, 8, 9, 10, 11, 12] [11] [10] _ _ (sY (sY (sY (sY (sY (sY (sY (sY (sY (sY (sY (sY (sY (sY sE)))))))))))))) (fun _ h => h) Try.mixed (by kernel_rfl) ?_
 refine tQ (Value.pointer (some ⟨b62, 1, none⟩)) rfl (tR kv44 rfl (fun A w M => (Step.load1 Try.sc22 rfl ((M.cell 2 rfl 1).trans rfl))) (tQ (Value.pointer (some ⟨b13, 1, none⟩)) rfl (tR kv3 rfl (fun A w M => (Step.load1 Try.sc22 rfl ((M.cell 9 rfl 1).trans rfl))) (tM (vI ↑i) rfl (tM (vI ↑i) rfl (tP (vI (↑(i + 1))) rfl (fun w => (Step.cast (congrArg (Value.int .i64) (show (↑i + 1 : Int) = ↑(i + 1) by omega)) (Step.add rfl rfl (wrap_i64 (by omega))))) (tP (vSlice 1 i (i + 1) (vCap kv3) kv3) rfl (fun w => (Step.sliceLHP (l := i) (h := i + 1) Try.un22 Try.el9.sized rfl rfl (by omega) rfl (by omega) hsh65 (by omega) (by obtain ⟨_, _, _, _⟩ := hsh65; omega))) (tQ (Value.pointer (some ⟨b63, 1, none⟩)) rfl (tR kv53 rfl (fun A w M => (Step.load1 Try.sc22 rfl ((M.cell 1 rfl 1).trans rfl))) ?_)))))))))
 refine TW.new (obj := .cells #[kv44, (vSlice 1 i (i + 1) (vCap kv3) kv3), kv53] 22) (fun b => .slice (some ⟨b, 0, none⟩) 3 3) rfl (by decide) (by decide) rfl (fun w => (by obtain ⟨_, _, _, e⟩ := sl47; subst e; obtain ⟨_, _, _, e⟩ := (vSlice_sl (Shp.isSl hsh65)); rw [e]; obtain ⟨_, _, _, e⟩ := sl56; subst e; exact Step.make (by kernel_rfl))) (fun b72 => ?_)
 let Q : List Chunk := [bk b72 #[kv44, (vSlice 1 i (i + 1) (vCap kv3) kv3), kv53] 22, bk b63 #[(vB nb_.leaf), kv53, dv54, vv55] 99, bk b62 #[(vB na_.leaf), kv44, dv45, vv46] 99, oS kv53 nb_.keys, oH dv54 nb_.kids, oI vv55 nb_.vals, oS kv44 na_.keys, oH dv45 na_.kids, oI vv46 na_.vals, bk b13 #[(vB n.leaf), kv3, dv4, vv5] 99, arenaC 143 145 S ab l, oS kv3 n.keys, oH dv4 n.kids, oI vv5 n.vals, bk b1 #[(vI h.at_), (vI h.turn)] 92]
 refine TW.callX (ι := Value) (fun jx v_ => v_ = jx) (fun jx => oS jx (([na_.keys, (n.keys.drop i).take ((i + 1) - i), nb_.keys] : List (List ByteArray)).flatten) :: Q) (fun jx => [bF tb #[(vP ab), (vI r.at_), (vI r.turn), (vB fu), (vI ln)] 94]) rfl (by decide) rfl (fun jx => (sN (sN (sY (sY (sY (sY (sY (sY (sY (sY (sY (sY (sY (sY (sY (sY sE))))))))))))))))) (fun jx r h => h) (fun A w M => Rets.mono (concat_str (Value.slice (some ⟨b72, 0, none⟩) 3 3) ([na_.keys, (n.keys.drop i).take ((i + 1) - i), nb_.keys] : List (List ByteArray)) (by simp [sumL]; omega) (by simp) (M.enterW0 ⟨((((M.wideC0 1 rfl)).and (((M.wideC0 7 rfl).imp fun _ h => oW h).and (((((M.wideC0 12 rfl).imp fun _ h => oW h)).imp fun _ h => slat_sliceF strE_len (l := i) (h := i + 1) h (by omega) (by omega) (Nat.le_trans (by omega) (SlAt.cap h).1) (Nat.le_refl _)).and ((M.wideC0 4 rfl).imp fun _ h => oW h)))).imp fun _ ⟨hb_, hq0_, hq1_, hq2_⟩ => repS_blk (SlsT 1 strE) (cs := [kv44, (vSlice 1 i (i + 1) (vCap kv3) kv3), kv53]) (xs := [na_.keys, (n.keys.drop i).take ((i + 1) - i), nb_.keys]) hb_ rfl (by decide) (repL_snoc (T := (SlsT 1 strE)) (new := [kv53]) (x := nb_.keys) (repL_snoc (T := (SlsT 1 strE)) (new := [(vSlice 1 i (i + 1) (vCap kv3) kv3)]) (x := (n.keys.drop i).take ((i + 1) - i)) (repL_snoc (T := (SlsT 1 strE)) (new := [kv44]) (x := na_.keys) repL_nil (⟨_, rfl, hq0_⟩ : slRep 1 strE _ _ _)) (⟨_, rfl, hq1_⟩ : slRep 1 strE _ _ _)) (⟨_, rfl, hq2_⟩ : slRep 1 strE _ _ _))), trivial⟩)) (fun v_ w_ ⟨v73, e_, m⟩ => ⟨v73, e_, (M.leaveW0 m).sel [1, 0, 2, 3, 4, 5, 6, 7, 8, 9, 10, 11, 12, 13, 14, 15, 16] rfl (by decide), fun b hb => M.k0F m b hb⟩)) (fun w => CallsF.func Try.en127 rfl) (fun v73 v hp hin => ?_)
 replace hp := hp.symm; subst hp
 obtain ⟨_, _, hin⟩ := hin
 have sl74 : IsSl v73 := SlAt.isSl (oW (Mem.chunk hin 1 rfl).inv)
 have hle75 := SlAt.le' (oW (Mem.chunk hin 1 rfl).inv)
 clear hin
 refine tP v73 rfl (fun w => (Step.assign rfl)) ?_
 refine TW.done (fun w76 M => ?_)
 refine W.seq' ?_
 replace M := M.loseI 1
 have hsh77 := SlAt.shp (oW (M.chunk 13 rfl).inv)
 have hsh77c := hsh77
 obtain ⟨_, _, hsh77l, hsh77m⟩ := hsh77c
 refine W.drawn M [0, 1, 2, 3, 4, 5, 6, 7, 8, 9, 10, 11, 12] [11] [10] _ _ (sY (sY (sY (sY (sY (sY (sY (sY (sY (sY (sY (sY (sY (sY (sY sE))))))))))))))) (fun _ h => h) Try.mixed (by kernel_rfl) ?_
 refine tQ (Value.pointer (some ⟨b62, 3, none⟩)) rfl (tR vv46 rfl (fun A w M => (Step.load1 Try.sc97 rfl ((M.cell 3 rfl 3).trans rfl))) (tQ (Value.pointer (some ⟨b13, 3, none⟩)) rfl (tR vv5 rfl (fun A w M => (Step.load1 Try.sc97 rfl ((M.cell 10 rfl 3).trans rfl))) (tM (vI ↑i) rfl (tM (vI ↑i) rfl (tP (vI (↑(i + 1))) rfl (fun w => (Step.cast (congrArg (Value.int .i64) (show (↑i + 1 : Int) = ↑(i + 1) by omega)) (Step.add rfl rfl (wrap_i64 (by omega))))) (tP (vSlice 1 i (i + 1) (vCap vv5) vv5) rfl (fun w => (Step.sliceLHP (l := i) (h := i + 1) Try.un97 Try.el3.sized rfl rfl (by omega) rfl (by omega) hsh77 (by omega) (by obtain ⟨_, _, _, _⟩ := hsh77; omega))) (tQ (Value.pointer (some ⟨b63, 3, none⟩)) rfl (tR vv55 rfl (fun A w M => (Step.load1 Try.sc97 rfl ((M.cell 2 rfl 3).trans rfl))) ?_)))))))))
 refine TW.new (obj := .cells #[vv46, (vSlice 1 i (i + 1) (vCap vv5) vv5), vv55] 97) (fun b => .slice (some ⟨b, 0, none⟩) 3 3) rfl (by decide) (by decide) rfl (fun w => (by obtain ⟨_, _, _, e⟩ := sl51; subst e; obtain ⟨_, _, _, e⟩ := (vSlice_sl (Shp.isSl hsh77)); rw [e]; obtain ⟨_, _, _, e⟩ := sl60; subst e; exact Step.make (by kernel_rfl))) (fun b84 => ?_)
 let Q : List Chunk := [bk b84 #[vv46, (vSlice 1 i (i + 1) (vCap vv5) vv5), vv55] 97, oS v73 (([na_.keys, (n.keys.drop i).take ((i + 1) - i), nb_.keys] : List (List ByteArray)).flatten), bk b63 #[(vB nb_.leaf), kv53, dv54, vv55] 99, bk b62 #[(vB na_.leaf), kv44, dv45, vv46] 99, oS kv53 nb_.keys, oH dv54 nb_.kids, oI vv55 nb_.vals, oS kv44 na_.keys, oH dv45 na_.kids, oI vv46 na_.vals, bk b13 #[(vB n.leaf), kv3, dv4, vv5] 99, arenaC 143 145 S ab l, oS kv3 n.keys, oH dv4 n.kids, oI vv5 n.vals, bk b1 #[(vI h.at_), (vI h.turn)] 92]
 refine TW.callX (ι := Value) (fun jx v_ => v_ = jx) (fun jx => oI jx (([na_.vals, (n.vals.drop i).take ((i + 1) - i), nb_.vals] : List (List Int)).flatten) :: Q) (fun jx => [bF tb #[(vP ab), (vI r.at_), (vI r.turn), (vB fu), (vI ln)] 94]) rfl (by decide) rfl (fun jx => (sN (sN (sY (sY (sY (sY (sY (sY (sY (sY (sY (sY (sY (sY (sY (sY (sY sE)))))))))))))))))) (fun jx r h => h) (fun A w M => Rets.mono (concat_int (Value.slice (some ⟨b84, 0, none⟩) 3 3) ([na_.vals, (n.vals.drop i).take ((i + 1) - i), nb_.vals] : List (List Int)) (by simp [sumL]; omega) (by simp) (M.enterW0 ⟨((((M.wideC0 1 rfl)).and (((M.wideC0 10 rfl).imp fun _ h => oW h).and (((((M.wideC0 15 rfl).imp fun _ h => oW h)).imp fun _ h => slat_sliceF intE_len (l := i) (h := i + 1) h (by omega) (by omega) (Nat.le_trans (by omega) (SlAt.cap h).1) (Nat.le_refl _)).and ((M.wideC0 7 rfl).imp fun _ h => oW h)))).imp fun _ ⟨hb_, hq0_, hq1_, hq2_⟩ => repS_blk (SlsT 1 intE) (cs := [vv46, (vSlice 1 i (i + 1) (vCap vv5) vv5), vv55]) (xs := [na_.vals, (n.vals.drop i).take ((i + 1) - i), nb_.vals]) hb_ rfl (by decide) (repL_snoc (T := (SlsT 1 intE)) (new := [vv55]) (x := nb_.vals) (repL_snoc (T := (SlsT 1 intE)) (new := [(vSlice 1 i (i + 1) (vCap vv5) vv5)]) (x := (n.vals.drop i).take ((i + 1) - i)) (repL_snoc (T := (SlsT 1 intE)) (new := [vv46]) (x := na_.vals) repL_nil (⟨_, rfl, hq0_⟩ : slRep 1 intE _ _ _)) (⟨_, rfl, hq1_⟩ : slRep 1 intE _ _ _)) (⟨_, rfl, hq2_⟩ : slRep 1 intE _ _ _))), trivial⟩)) (fun v_ w_ ⟨v85, e_, m⟩ => ⟨v85, e_, (M.leaveW0 m).sel [1, 0, 2, 3, 4, 5, 6, 7, 8, 9, 10, 11, 12, 13, 14, 15, 16, 17] rfl (by decide), fun b hb => M.k0F m b hb⟩)) (fun w => CallsF.func Try.en128 rfl) (fun v85 v hp hin => ?_)
 replace hp := hp.symm; subst hp
 obtain ⟨_, _, hin⟩ := hin
 have sl86 : IsSl v85 := SlAt.isSl (oW (Mem.chunk hin 1 rfl).inv)
 have hle87 := SlAt.le' (oW (Mem.chunk hin 1 rfl).inv)
 clear hin
 refine tP v85 rfl (fun w => (Step.assign rfl)) ?_
 refine TW.done (fun w88 M => ?_)
 refine W.seq' ?_
 replace M := M.loseI 1
 have hcat_keys : ([na_.keys, (n.keys.drop i).take ((i + 1) - i), nb_.keys] : List (List ByteArray)).flatten = na_.keys ++ ((n.keys.drop i).take 1 ++ nb_.keys) := by simp [Nat.add_sub_cancel_left]
 replace M := M.rechunk 1 (c' := oS v73 (na_.keys ++ ((n.keys.drop i).take 1 ++ nb_.keys))) rfl (by rw [hcat_keys])
 have hcl_keys : (na_.keys ++ ((n.keys.drop i).take 1 ++ nb_.keys)).length = na_.keys.length + (1 + nb_.keys.length) := by simp; try omega
 have hcat_vals : ([na_.vals, (n.vals.drop i).take ((i + 1) - i), nb_.vals] : List (List Int)).flatten = na_.vals ++ ((n.vals.drop i).take 1 ++ nb_.vals) := by simp [Nat.add_sub_cancel_left]
 replace M := M.rechunk 0 (c' := oI v85 (na_.vals ++ ((n.vals.drop i).take 1 ++ nb_.vals))) rfl (by rw [hcat_vals])
 have hcl_vals : (na_.vals ++ ((n.vals.drop i).take 1 ++ nb_.vals)).length = na_.vals.length + (1 + nb_.vals.length) := by simp; try omega
 refine W.region rfl (wP (Value.pointer (some ⟨b62, 2, none⟩)) (wS dv45 rfl (Step.load1 Try.sc96 rfl ((M.cell 3 rfl 2).trans rfl)) (wP (Value.pointer (some ⟨b63, 2, none⟩)) (wS dv54 rfl (Step.load1 Try.sc96 rfl ((M.cell 2 rfl 2).trans rfl)) ?_))))
 refine WL.new (obj := .cells #[dv45, dv54] 96) (fun b => .slice (some ⟨b, 0, none⟩) 2 2) M rfl (fun w => (by obtain ⟨_, _, _, e⟩ := sl49; subst e; obtain ⟨_, _, _, e⟩ := sl58; subst e; exact Step.make (by kernel_rfl))) (fun b89 w90 hb89 M => ?_)
 refine WL.callX rfl (concat_hdl (Value.slice (some ⟨b89, 0, none⟩) 2 2) ([na_.kids, nb_.kids] : List (List Handle)) (by simp [sumL]; omega) (by simp) (M.enterW0 ⟨((((M.wideC0 0 rfl)).and (((M.wideC0 9 rfl).imp fun _ h => oW h).and ((M.wideC0 6 rfl).imp fun _ h => oW h))).imp fun _ ⟨hb_, hq0_, hq1_⟩ => repS_blk (SlsT 2 handleE) (cs := [dv45, dv54]) (xs := [na_.kids, nb_.kids]) hb_ rfl (by decide) (repL_snoc (T := (SlsT 2 handleE)) (new := [dv54]) (x := nb_.kids) (repL_snoc (T := (SlsT 2 handleE)) (new := [dv45]) (x := na_.kids) repL_nil (⟨_, rfl, hq0_⟩ : slRep 2 handleE _ _ _)) (⟨_, rfl, hq1_⟩ : slRep 2 handleE _ _ _))), trivial⟩)) (CallsF.func Try.en129 rfl) ?_
 rintro v91 w92 ⟨_, rfl, m⟩
 replace M := M.leaveW0 m
 clear m
 have sl93 : IsSl v91 := SlAt.isSl (oW (Mem.chunk M 0 rfl).inv)
 have hle94 := SlAt.le' (oW (Mem.chunk M 0 rfl).inv)
 refine wA v91 (WL.nil (W.seq' ?_))
 have hcat_kids : ([na_.kids, nb_.kids] : List (List Handle)).flatten = na_.kids ++ nb_.kids := by simp [Nat.add_sub_cancel_left]
 replace M := M.rechunk 0 (c' := oH v91 (na_.kids ++ nb_.kids)) rfl (by rw [hcat_kids])
 have hcl_kids : (na_.kids ++ nb_.kids).length = na_.kids.length + nb_.kids.length := by simp; try omega
 refine W.region rfl (wP (Value.pointer (some ⟨b62, 1, none⟩)) (wS kv44 rfl (Step.load1 Try.sc22 rfl ((M.cell 5 rfl 1).trans rfl)) (wS (vI ↑na_.keys.length) rfl (Step.lenSl Try.un22 rfl (oW (M.chunk 9 rfl).inv)) (wS (vI (↑(na_.keys.length - 1))) rfl (Step.cast (congrArg (Value.int .i64) (show ((↑na_.keys.length : Int) - 1 : Int) = ↑(na_.keys.length - 1) by omega)) (Step.sub rfl rfl (wrap_i64 (by omega)))) (wA (vI (↑(na_.keys.length - 1))) (WL.nil (W.seq' (wR (wM (vB lw) (WL.nil ?_))))))))))
 obtain ⟨at_, hat_⟩ : ∃ q, (if lw then na_.keys.length + 1 else na_.keys.length - 1) = q := ⟨_, rfl⟩
 have hatl_ : at_ ≤ na_.keys.length + 1 := by rw [← hat_]; split <;> omega
 refine W.join (fun ρ w' => ρ.has [(0, (vP tb)), (1, (Value.agg #[(vI h.at_), (vI h.turn)])), (2, (vI ↑i)), (3, (vB lw)), (5, (vP b1)), (8, (vP b13)), (9, (vP b62)), (10, (vP b63)), (11, v73), (12, v85), (13, v91), (14, (vI ↑at_)), (15, (vP tb)), (16, (Value.agg #[(vI h.at_), (vI h.turn)])), (17, (Value.agg #[(vB n.leaf), kv3, dv4, vv5])), (18, (vP tb)), (19, (Value.pointer (some ⟨b13, 2, none⟩))), (20, dv4), (21, (vI ↑i)), (22, (vQ dv4 i 2)), (23, (Value.agg #[(vI x18.at_), (vI x18.turn)])), (24, (Value.agg #[(vB na_.leaf), kv44, dv45, vv46])), (25, (vP tb)), (26, (Value.pointer (some ⟨b13, 2, none⟩))), (27, dv4), (28, (vI ↑i)), (29, (vI (↑(i + 1)))), (30, (vQ dv4 (i + 1) 2)), (31, (Value.agg #[(vI x22.at_), (vI x22.turn)])), (32, (Value.agg #[(vB nb_.leaf), kv53, dv54, vv55])), (33, (Value.pointer (some ⟨b62, 1, none⟩))), (34, kv44), (35, (Value.pointer (some ⟨b13, 1, none⟩))), (36, kv3), (37, (vI ↑i)), (38, (vI ↑i)), (39, (vI (↑(i + 1)))), (40, (vSlice 1 i (i + 1) (vCap kv3) kv3)), (41, (Value.pointer (some ⟨b63, 1, none⟩))), (42, kv53), (43, (Value.slice (some ⟨b72, 0, none⟩) 3 3)), (44, v73), (45, (Value.pointer (some ⟨b62, 3, none⟩))), (46, vv46), (47, (Value.pointer (some ⟨b13, 3, none⟩))), (48, vv5), (49, (vI ↑i)), (50, (vI ↑i)), (51, (vI (↑(i + 1)))), (52, (vSlice 1 i (i + 1) (vCap vv5) vv5)), (53, (Value.pointer (some ⟨b63, 3, none⟩))), (54, vv55), (55, (Value.slice (some ⟨b84, 0, none⟩) 3 3)), (56, v85), (57, (Value.pointer (some ⟨b62, 2, none⟩))), (58, dv45), (59, (Value.pointer (some ⟨b63, 2, none⟩))), (60, dv54), (61, (Value.slice (some ⟨b89, 0, none⟩) 2 2)), (62, v91), (63, (Value.pointer (some ⟨b62, 1, none⟩))), (64, kv44), (65, (vI ↑na_.keys.length)), (66, (vI (↑(na_.keys.length - 1)))), (67, (vB lw))] ∧ Mem G X w [oH v91 (na_.kids ++ nb_.kids), bk b89 #[dv45, dv54] 96, oI v85 (na_.vals ++ ((n.vals.drop i).take 1 ++ nb_.vals)), oS v73 (na_.keys ++ ((n.keys.drop i).take 1 ++ nb_.keys)), bk b63 #[(vB nb_.leaf), kv53, dv54, vv55] 99, bk b62 #[(vB na_.leaf), kv44, dv45, vv46] 99, oS kv53 nb_.keys, oH dv54 nb_.kids, oI vv55 nb_.vals, oS kv44 na_.keys, oH dv45 na_.kids, oI vv46 na_.vals, bk b13 #[(vB n.leaf), kv3, dv4, vv5] 99, arenaC 143 145 S ab l, oS kv3 n.keys, oH dv4 n.kids, oI vv5 n.vals, bk b1 #[(vI h.at_), (vI h.turn)] 92] [bF tb #[(vP ab), (vI r.at_), (vI r.turn), (vB fu), (vI ln)] 94] w') ?_ ?_
 ·
  refine W.cond (t := lw) rfl (fun h95 => ?_) (fun h95 => ?_)
  ·
   refine W.region rfl (wP (Value.pointer (some ⟨b62, 1, none⟩)) (wS kv44 rfl (Step.load1 Try.sc22 rfl ((M.cell 5 rfl 1).trans rfl)) (wS (vI ↑na_.keys.length) rfl (Step.lenSl Try.un22 rfl (oW (M.chunk 9 rfl).inv)) (wS (vI (↑(na_.keys.length + 1))) rfl (Step.cast (congrArg (Value.int .i64) (show (↑na_.keys.length + 1 : Int) = ↑(na_.keys.length + 1) by omega)) (Step.add rfl rfl (wrap_i64 (by omega)))) (wA (vI (↑(na_.keys.length + 1))) (WL.nil ?_))))))
   exact ⟨⟨rfl, rfl, rfl, rfl, rfl, rfl, rfl, rfl, rfl, rfl, rfl, (congrArg (Value.int .i64) (show (↑(na_.keys.length + 1) : Int) = ↑at_ by rw [← hat_]; simp only [h95, if_true, Bool.false_eq_true, if_false] <;> omega)), rfl, rfl, rfl, rfl, rfl, rfl, rfl, rfl, rfl, rfl, rfl, rfl, rfl, rfl, rfl, rfl, rfl, rfl, rfl, rfl, rfl, rfl, rfl, rfl, rfl, rfl, rfl, rfl, rfl, rfl, rfl, rfl, rfl, rfl, rfl, rfl, rfl, rfl, rfl, rfl, rfl, rfl, rfl, rfl, rfl, rfl, rfl, rfl, rfl, rfl, rfl, rfl, rfl, rfl, rfl⟩, M⟩
  ·
   refine W.skip ?_
   exact ⟨⟨rfl, rfl, rfl, rfl, rfl, rfl, rfl, rfl, rfl, rfl, rfl, (congrArg (Value.int .i64) (show (↑(na_.keys.length - 1) : Int) = ↑at_ by rw [← hat_]; simp only [h95, if_true, Bool.false_eq_true, if_false] <;> omega)), rfl, rfl, rfl, rfl, rfl, rfl, rfl, rfl, rfl, rfl, rfl, rfl, rfl, rfl, rfl, rfl, rfl, rfl, rfl, rfl, rfl, rfl, rfl, rfl, rfl, rfl, rfl, rfl, rfl, rfl, rfl, rfl, rfl, rfl, rfl, rfl, rfl, rfl, rfl, rfl, rfl, rfl, rfl, rfl, rfl, rfl, rfl, rfl, rfl, rfl, rfl, rfl, rfl, rfl, rfl⟩, M⟩
 ·
  rintro ρ96 w97 ⟨hρ, M⟩
  obtain ⟨ρ96, rfl⟩ := hρ.know
  clear hρ
  refine W.seq' ?_
  replace M := M.loseI 1
  obtain ⟨cap99, hb98⟩ := SlAt.base (oW (M.chunk 2 rfl).inv) (by omega)
  obtain ⟨x100, hx100⟩ := elem_of_lt (xs := na_.keys ++ ((n.keys.drop i).take 1 ++ nb_.keys)) (i := at_) (by omega)
  obtain ⟨cap102, hb101⟩ := SlAt.base (oW (M.chunk 1 rfl).inv) (by omega)
  obtain ⟨x103, hx103⟩ := elem_of_lt (xs := na_.vals ++ ((n.vals.drop i).take 1 ++ nb_.vals)) (i := at_) (by omega)
  obtain ⟨cap105, hb104⟩ := SlAt.base (oW (M.chunk 13 rfl).inv) (by omega)
  obtain ⟨x106, hx106⟩ := elem_of_lt (xs := n.keys) (i := i) (by omega)
  obtain ⟨pre107, post108, hcs109, hpre110, hback111⟩ := flat_open strE_len hx106
  replace M := M.rechunk 13 (c' := own 9 1 kv3 n.keys.length (pre107 ++ ([(vS x106)] ++ post108))) rfl (by show own 9 1 kv3 n.keys.length (n.keys.flatMap strE) = _; rw [hcs109]; rfl)
  obtain ⟨cap113, hb112⟩ := SlAt.base (oW (M.chunk 15 rfl).inv) (by omega)
  obtain ⟨x114, hx114⟩ := elem_of_lt (xs := n.vals) (i := i) (by omega)
  obtain ⟨pre115, post116, hcs117, hpre118, hback119⟩ := flat_open intE_len hx114
  replace M := M.rechunk 15 (c' := own 3 1 vv5 n.vals.length (pre115 ++ ([(vI x114)] ++ post116))) rfl (by show own 3 1 vv5 n.vals.length (n.vals.flatMap intE) = _; rw [hcs117]; rfl)
  refine W.drawn M [0, 1, 2, 3, 4, 5, 6, 7, 8, 9, 10, 11, 12, 13, 14, 15, 16, 17] [15, 17] [] _ _ (sY (sY (sY (sY (sY (sY (sY (sY (sY (sY (sY (sY (sY (sN (sY (sN (sY sE))))))))))))))))) (fun _ h => h) Try.mixed (by kernel_rfl) ?_
  refine tQ (Value.pointer (some ⟨b13, 1, none⟩)) rfl (tR kv3 rfl (fun A w M => (Step.load1 Try.sc22 rfl ((M.cell 12 rfl 1).trans rfl))) (tM (vI ↑i) rfl (tQ (Value.pointer (some ⟨b13, 3, none⟩)) rfl (tR vv5 rfl (fun A w M => (Step.load1 Try.sc97 rfl ((M.cell 12 rfl 3).trans rfl))) (tM (vI ↑i) rfl (tM v73 rfl (tM (vI ↑at_) rfl (tP (vQ v73 at_ 1) rfl (fun w => (sX at_ Try.un22 Try.el9 rfl rfl hb98)) (tR (vS x100) rfl (fun A w M => (Step.loadE (k := 0) Try.sc9 (flat_ec (oW (M.chunk 3 rfl).inv) hx100 strE_len) (by decide) rfl rfl)) (tM v85 rfl (tM (vI ↑at_) rfl (tP (vQ v85 at_ 1) rfl (fun w => (sX at_ Try.un97 Try.el3 rfl rfl hb101)) (tR (vI x103) rfl (fun A w M => (Step.loadE (k := 0) Try.sc3 (flat_ec (oW (M.chunk 2 rfl).inv) hx103 intE_len) (by decide) rfl rfl)) (tP (vQ kv3 i 1) rfl (fun w => (sX i Try.un22 Try.el9 rfl rfl hb104)) ?_))))))))))))))
  refine TW.act (c' := own 9 1 kv3 n.keys.length (pre107 ++ ([(vS x100)] ++ post108))) 13 rfl rfl (by decide) rfl (sY (sY (sY (sY (sY (sY (sY (sY (sY (sY (sY (sY (sY (sN (sY (sN (sY sE))))))))))))))))) (fun r h => h) (fun A w M => M.storeAt (cells := [(vS x106)]) (cells' := [(vS x100)]) (new := [(vS x100)]) (k := 0) 14 rfl hpre110 Try.el9.sized rfl rfl rfl (cC rfl cel_nil) (by first | omega | (simp only [List.length_set, List.length_append, List.length_cons, List.length_nil]; omega)) (nL rfl) rfl rfl) ?_
  refine tP (vQ vv5 i 1) rfl (fun w => (sX i Try.un97 Try.el3 rfl rfl hb112)) ?_
  refine TW.act (c' := own 3 1 vv5 n.vals.length (pre115 ++ ([(vI x103)] ++ post116))) 15 rfl rfl (by decide) rfl (sY (sY (sY (sY (sY (sY (sY (sY (sY (sY (sY (sY (sY (sN (sY (sN (sY sE))))))))))))))))) (fun r h => h) (fun A w M => M.storeAt (cells := [(vI x114)]) (cells' := [(vI x103)]) (new := [(vI x103)]) (k := 0) 16 rfl hpre118 Try.el3.sized rfl rfl rfl (cC rfl cel_nil) (by first | omega | (simp only [List.length_set, List.length_append, List.length_cons, List.length_nil]; omega)) (nL rfl) rfl rfl) ?_
  refine TW.done (fun w120 M => ?_)
  refine W.seq' ?_
  have hsh121 := SlAt.shp (oW (M.chunk 2 rfl).inv)
  have hsh121c := hsh121
  obtain ⟨_, _, hsh121l, hsh121m⟩ := hsh121c
  have hsh122 := SlAt.shp (oW (M.chunk 1 rfl).inv)
  have hsh122c := hsh122
  obtain ⟨_, _, hsh122l, hsh122m⟩ := hsh122c
  refine W.drawn M [0, 1, 2, 3, 4, 5, 6, 7, 8, 9, 10, 11, 12, 13, 14, 15, 16, 17, 18, 19, 20, 21] [15, 17, 19, 21] [] _ _ (sY (sY (sY (sN (sN (sY (sY (sY (sY (sY (sY (sY (sY (sY (sY (sY (sY sE))))))))))))))))) (fun _ h => h) Try.mixed (by kernel_rfl) ?_
  refine tM v73 rfl (tM (vI ↑at_) rfl (tP (vTake at_ v73) rfl (fun w => (Step.sliceToP (h := at_) Try.un22 Try.el9.sized rfl rfl (by omega) hsh121 (by obtain ⟨_, _, _, _⟩ := hsh121; omega))) (tM v85 rfl (tM (vI ↑at_) rfl (tP (vTake at_ v85) rfl (fun w => (Step.sliceToP (h := at_) Try.un97 Try.el3.sized rfl rfl (by omega) hsh122 (by obtain ⟨_, _, _, _⟩ := hsh122; omega))) (tM v73 rfl (tM (vI ↑at_) rfl (tP (vI (↑(at_ + 1))) rfl (fun w => (Step.cast (congrArg (Value.int .i64) (show (↑at_ + 1 : Int) = ↑(at_ + 1) by omega)) (Step.add rfl rfl (wrap_i64 (by omega))))) (tP (vSlice 1 (at_ + 1) ((na_.keys ++ ((n.keys.drop i).take 1 ++ nb_.keys)).length) (vCap v73) v73) rfl (fun w => (Step.sliceFromP (l := at_ + 1) Try.un22 Try.el9.sized rfl rfl (by omega) hsh121 (by omega))) (tM v85 rfl (tM (vI ↑at_) rfl (tP (vI (↑(at_ + 1))) rfl (fun w => (Step.cast (congrArg (Value.int .i64) (show (↑at_ + 1 : Int) = ↑(at_ + 1) by omega)) (Step.add rfl rfl (wrap_i64 (by omega))))) (tP (vSlice 1 (at_ + 1) ((na_.vals ++ ((n.vals.drop i).take 1 ++ nb_.vals)).length) (vCap v85) v85) rfl (fun w => (Step.sliceFromP (l := at_ + 1) Try.un97 Try.el3.sized rfl rfl (by omega) hsh122 (by omega))) (tQ (Value.pointer (some ⟨b62, 1, none⟩)) rfl ?_))))))))))))))
  refine TW.store (v := (vTake at_ v73)) (cs := [(vTake at_ v73)]) (c' := #[(vB na_.leaf), (vTake at_ v73), dv45, vv46]) 4 rfl rfl (by decide) rfl Try.el22.sized rfl rfl (IsSl.list (Shp.isSl (Shp.take hsh121 (k := at_) (by obtain ⟨_, _, _, _⟩ := hsh121; omega)))) rfl (nL rfl) (cC (IsSl.cel (Shp.isSl (Shp.take hsh121 (k := at_) (by obtain ⟨_, _, _, _⟩ := hsh121; omega)))) cel_nil) rfl rfl (sY (sY (sY (sN (sN (sY (sY (sY (sY (sY (sY (sY (sY (sY (sY (sY (sY sE))))))))))))))))) (fun r h => h) ?_
  refine tQ (Value.pointer (some ⟨b62, 3, none⟩)) rfl ?_
  refine TW.store (v := (vTake at_ v85)) (cs := [(vTake at_ v85)]) (c' := #[(vB na_.leaf), (vTake at_ v73), dv45, (vTake at_ v85)]) 4 rfl rfl (by decide) rfl Try.el97.sized rfl rfl (IsSl.list (Shp.isSl (Shp.take hsh122 (k := at_) (by obtain ⟨_, _, _, _⟩ := hsh122; omega)))) rfl (nL rfl) (cC (IsSl.cel (Shp.isSl (Shp.take hsh122 (k := at_) (by obtain ⟨_, _, _, _⟩ := hsh122; omega)))) cel_nil) rfl rfl (sY (sY (sY (sN (sN (sY (sY (sY (sY (sY (sY (sY (sY (sY (sY (sY (sY sE))))))))))))))))) (fun r h => h) ?_
  refine tQ (Value.pointer (some ⟨b63, 1, none⟩)) rfl ?_
  refine TW.store (v := (vSlice 1 (at_ + 1) ((na_.keys ++ ((n.keys.drop i).take 1 ++ nb_.keys)).length) (vCap v73) v73)) (cs := [(vSlice 1 (at_ + 1) ((na_.keys ++ ((n.keys.drop i).take 1 ++ nb_.keys)).length) (vCap v73) v73)]) (c' := #[(vB nb_.leaf), (vSlice 1 (at_ + 1) ((na_.keys ++ ((n.keys.drop i).take 1 ++ nb_.keys)).length) (vCap v73) v73), dv54, vv55]) 3 rfl rfl (by decide) rfl Try.el22.sized rfl rfl (IsSl.list (vSlice_sl (Shp.isSl hsh121))) rfl (nL rfl) (cC (IsSl.cel (vSlice_sl (Shp.isSl hsh121))) cel_nil) rfl rfl (sY (sY (sY (sN (sN (sY (sY (sY (sY (sY (sY (sY (sY (sY (sY (sY (sY sE))))))))))))))))) (fun r h => h) ?_
  refine tQ (Value.pointer (some ⟨b63, 3, none⟩)) rfl ?_
  refine TW.store (v := (vSlice 1 (at_ + 1) ((na_.vals ++ ((n.vals.drop i).take 1 ++ nb_.vals)).length) (vCap v85) v85)) (cs := [(vSlice 1 (at_ + 1) ((na_.vals ++ ((n.vals.drop i).take 1 ++ nb_.vals)).length) (vCap v85) v85)]) (c' := #[(vB nb_.leaf), (vSlice 1 (at_ + 1) ((na_.keys ++ ((n.keys.drop i).take 1 ++ nb_.keys)).length) (vCap v73) v73), dv54, (vSlice 1 (at_ + 1) ((na_.vals ++ ((n.vals.drop i).take 1 ++ nb_.vals)).length) (vCap v85) v85)]) 3 rfl rfl (by decide) rfl Try.el97.sized rfl rfl (IsSl.list (vSlice_sl (Shp.isSl hsh122))) rfl (nL rfl) (cC (IsSl.cel (vSlice_sl (Shp.isSl hsh122))) cel_nil) rfl rfl (sY (sY (sY (sN (sN (sY (sY (sY (sY (sY (sY (sY (sY (sY (sY (sY (sY sE))))))))))))))))) (fun r h => h) ?_
  refine TW.done (fun w131 M => ?_)
  refine W.seq' (W.seq' ?_)
  replace M := M.sel (L' := [oH v91 (na_.kids ++ nb_.kids), oI v85 (na_.vals ++ ((n.vals.drop i).take 1 ++ nb_.vals)), oS v73 (na_.keys ++ ((n.keys.drop i).take 1 ++ nb_.keys)), bk b63 #[(vB nb_.leaf), (vSlice 1 (at_ + 1) ((na_.keys ++ ((n.keys.drop i).take 1 ++ nb_.keys)).length) (vCap v73) v73), dv54, (vSlice 1 (at_ + 1) ((na_.vals ++ ((n.vals.drop i).take 1 ++ nb_.vals)).length) (vCap v85) v85)] 99, bk b62 #[(vB na_.leaf), (vTake at_ v73), dv45, (vTake at_ v85)] 99, oH dv54 nb_.kids, oH dv45 na_.kids, bk b13 #[(vB n.leaf), kv3, dv4, vv5] 99, arenaC 143 145 S ab l, own 9 1 kv3 n.keys.length (pre107 ++ ([(vS x100)] ++ post108)), oH dv4 n.kids, own 3 1 vv5 n.vals.length (pre115 ++ ([(vI x103)] ++ post116)), bk b1 #[(vI h.at_), (vI h.turn)] 92]) [0, 1, 2, 3, 4, 6, 9, 11, 12, 13, 14, 15, 16] rfl (by decide)
  refine W.region rfl (wP (vP b62) (wS (vB na_.leaf) rfl (Step.load1 Try.sc4 rfl ((M.cell 4 rfl 0).trans rfl)) (wP (vB !na_.leaf) (WL.nil ?_))))
  refine W.cond (t := !na_.leaf) rfl (fun h132 => ?_) (fun h132 => ?_)
  ·
   have hlf_ : na_.leaf = false := by simpa using h132
   have hak_ := hP.ak hlf_
   have hbk_ := hP.bk hlf_
   have hsh133 := SlAt.shp (oW (M.chunk 0 rfl).inv)
   have hsh133c := hsh133
   obtain ⟨_, _, hsh133l, hsh133m⟩ := hsh133c
   refine W.drawn M [0, 1, 2, 3, 4, 5, 6, 7, 8, 9, 10, 11] [9, 11] [] _ _ (sY (sY (sY (sN (sN (sY (sY (sY (sY (sY (sY (sY (sY sE))))))))))))) (fun _ h => h) Try.mixed (by kernel_rfl) ?_
   refine tM v91 rfl (tM (vI ↑at_) rfl (tP (vI (↑(at_ + 1))) rfl (fun w => (Step.cast (congrArg (Value.int .i64) (show (↑at_ + 1 : Int) = ↑(at_ + 1) by omega)) (Step.add rfl rfl (wrap_i64 (by omega))))) (tP (vTake (at_ + 1) v91) rfl (fun w => (Step.sliceToP (h := at_ + 1) Try.un96 Try.el92.sized rfl rfl (by omega) hsh133 (by obtain ⟨_, _, _, _⟩ := hsh133; omega))) (tM v91 rfl (tM (vI ↑at_) rfl (tP (vI (↑(at_ + 1))) rfl (fun w => (Step.cast (congrArg (Value.int .i64) (show (↑at_ + 1 : Int) = ↑(at_ + 1) by omega)) (Step.add rfl rfl (wrap_i64 (by omega))))) (tP (vSlice 2 (at_ + 1) ((na_.kids ++ nb_.kids).length) (vCap v91) v91) rfl (fun w => (Step.sliceFromP (l := at_ + 1) Try.un96 Try.el92.sized rfl rfl (by omega) hsh133 (by omega))) (tQ (Value.pointer (some ⟨b62, 2, none⟩)) rfl ?_))))))))
   refine TW.store (v := (vTake (at_ + 1) v91)) (cs := [(vTake (at_ + 1) v91)]) (c' := #[(vB na_.leaf), (vTake at_ v73), (vTake (at_ + 1) v91), (vTake at_ v85)]) 4 rfl rfl (by decide) rfl Try.el96.sized rfl rfl (IsSl.list (Shp.isSl (Shp.take hsh133 (k := at_ + 1) (by obtain ⟨_, _, _, _⟩ := hsh133; omega)))) rfl (nL rfl) (cC (IsSl.cel (Shp.isSl (Shp.take hsh133 (k := at_ + 1) (by obtain ⟨_, _, _, _⟩ := hsh133; omega)))) cel_nil) rfl rfl (sY (sY (sY (sN (sN (sY (sY (sY (sY (sY (sY (sY (sY sE))))))))))))) (fun r h => h) ?_
   refine tQ (Value.pointer (some ⟨b63, 2, none⟩)) rfl ?_
   refine TW.store (v := (vSlice 2 (at_ + 1) ((na_.kids ++ nb_.kids).length) (vCap v91) v91)) (cs := [(vSlice 2 (at_ + 1) ((na_.kids ++ nb_.kids).length) (vCap v91) v91)]) (c' := #[(vB nb_.leaf), (vSlice 1 (at_ + 1) ((na_.keys ++ ((n.keys.drop i).take 1 ++ nb_.keys)).length) (vCap v73) v73), (vSlice 2 (at_ + 1) ((na_.kids ++ nb_.kids).length) (vCap v91) v91), (vSlice 1 (at_ + 1) ((na_.vals ++ ((n.vals.drop i).take 1 ++ nb_.vals)).length) (vCap v85) v85)]) 3 rfl rfl (by decide) rfl Try.el96.sized rfl rfl (IsSl.list (vSlice_sl (Shp.isSl hsh133))) rfl (nL rfl) (cC (IsSl.cel (vSlice_sl (Shp.isSl hsh133))) cel_nil) rfl rfl (sY (sY (sY (sN (sN (sY (sY (sY (sY (sY (sY (sY (sY sE))))))))))))) (fun r h => h) ?_
   refine TW.done (fun w138 M => ?_)
   refine W.seq' ?_
   replace M := M.loseI 6
   replace M := M.loseI 5
   refine W.drawn M [0, 1, 2, 3, 4, 5, 6, 7] [7] [] _ _ (sY (sY (sY (sY (sY (sY (sN (sY (sY (sY (sY sE))))))))))) (fun _ h => h) Try.mixed (by kernel_rfl) ?_
   refine tM (vP tb) rfl (tQ (Value.pointer (some ⟨b13, 2, none⟩)) rfl (tR dv4 rfl (fun A w M => (Step.load1 Try.sc96 rfl ((M.cell 6 rfl 2).trans rfl))) (tM (vI ↑i) rfl (tP (vQ dv4 i 2) rfl (fun w => (sX i Try.un96 Try.el92 rfl rfl hb16)) (tR (Value.agg #[(vI x18.at_), (vI x18.turn)]) rfl (fun A w M => (Step.loadEN (k := 0) (cs' := [(vI x18.at_), (vI x18.turn)]) Try.ag92 (flat_ec (oW (M.chunk 8 rfl).inv) hx18 handleE_len) (by decide) rfl rfl rfl)) (tR (Value.agg #[(vB na_.leaf), (vTake at_ v73), (vTake (at_ + 1) v91), (vTake at_ v85)]) rfl (fun A w M => (Step.loadN Try.ag99 rfl (M.blk 5 rfl) (nL rfl) rfl)) ?_))))))
   let Q : List Chunk := [oH v91 (na_.kids ++ nb_.kids), oI v85 (na_.vals ++ ((n.vals.drop i).take 1 ++ nb_.vals)), oS v73 (na_.keys ++ ((n.keys.drop i).take 1 ++ nb_.keys)), bk b63 #[(vB nb_.leaf), (vSlice 1 (at_ + 1) ((na_.keys ++ ((n.keys.drop i).take 1 ++ nb_.keys)).length) (vCap v73) v73), (vSlice 2 (at_ + 1) ((na_.kids ++ nb_.kids).length) (vCap v91) v91), (vSlice 1 (at_ + 1) ((na_.vals ++ ((n.vals.drop i).take 1 ++ nb_.vals)).length) (vCap v85) v85)] 99, bk b62 #[(vB na_.leaf), (vTake at_ v73), (vTake (at_ + 1) v91), (vTake at_ v85)] 99, bk b13 #[(vB n.leaf), kv3, dv4, vv5] 99, own 9 1 kv3 n.keys.length (pre107 ++ ([(vS x100)] ++ post108)), oH dv4 n.kids, own 3 1 vv5 n.vals.length (pre115 ++ ([(vI x103)] ++ post116)), bk b1 #[(vI h.at_), (vI h.turn)] 92]
   refine TW.callX (ι := (Nat → Prop)) (fun jx v_ => v_ = undef) (fun jx => arenaC 143 145 jx ab ((rput l x18 (⟨na_.leaf, (na_.keys ++ ((n.keys.drop i).take 1 ++ nb_.keys)).take at_, (na_.kids ++ nb_.kids).take (at_ + 1), (na_.vals ++ ((n.vals.drop i).take 1 ++ nb_.vals)).take at_⟩ : Nd)).1) :: Q) (fun jx => [bF tb #[(vP ab), (vI r.at_), (vI r.turn), (vB fu), (vI ln)] 94]) rfl (by decide) rfl (fun jx => (sN (sY (sY (sY (sY (sY (sY (sY (sY (sY (sY sE)))))))))))) (fun jx r h => h) (fun A w M => have fq := M.frm [arenaC 143 145 S ab l] (fl A :: Q) [7, 0, 1, 2, 3, 4, 5, 6, 8, 9, 10, 11] rfl; Rets.mono (tr_put tb ab r fu ln l S x18 (vTake at_ v73) (vTake (at_ + 1) v91) (vTake at_ v85) (⟨na_.leaf, (na_.keys ++ ((n.keys.drop i).take 1 ++ nb_.keys)).take at_, (na_.kids ++ nb_.kids).take (at_ + 1), (na_.vals ++ ((n.vals.drop i).take 1 ++ nb_.vals)).take at_⟩ : Nd) (by assumption) (by simp [insL] <;> omega) (by simp [insL] <;> omega) (by simp [insL] <;> omega) (M.eF fq ⟨(M.rF fq 0 rfl), ((((M.cF fq 3 rfl).imp fun _ h => oW h)).imp fun _ h => slat_take strE_len h (by omega)), ((((M.cF fq 1 rfl).imp fun _ h => oW h)).imp fun _ h => slat_take handleE_len h (by omega)), ((((M.cF fq 2 rfl).imp fun _ h => oW h)).imp fun _ h => slat_take intE_len h (by omega)), trivial⟩)) (fun v_ w_ ⟨S141, e_, m⟩ => ⟨S141, e_, (M.lF fq m).sel [1, 0, 2, 3, 4, 5, 6, 7, 8, 9, 10, 11] rfl (by decide), fun b hb => M.kF fq m b hb⟩)) (fun w => CallsF.func Try.en84 rfl) (fun S141 v hp hin => ?_)
   replace hp := hp.symm; subst hp
   obtain ⟨_, _, hin⟩ := hin
   clear hin
   refine TW.done (fun w142 M => ?_)
   refine W.seq' ?_
   replace M := M.loseI 5
   obtain ⟨l1_, hl1_⟩ : ∃ q, ((rput l x18 (⟨na_.leaf, (na_.keys ++ ((n.keys.drop i).take 1 ++ nb_.keys)).take at_, (na_.kids ++ nb_.kids).take (at_ + 1), (na_.vals ++ ((n.vals.drop i).take 1 ++ nb_.vals)).take at_⟩ : Nd)).1) = q := ⟨_, rfl⟩
   have hAl1_ : SmallA l1_ := by rw [← hl1_]; first | exact SmallA.put (by assumption) (by first | omega | (simp [insL] <;> omega)) (by first | omega | (simp [insL] <;> omega)) (by first | omega | (simp [insL] <;> omega)) | exact SmallA.free (by assumption)
   replace M := M.rechunk 0 (c' := arenaC 143 145 S141 ab l1_) rfl (by rw [hl1_])
   refine W.drawn M [0, 1, 2, 3, 4, 5, 6, 7, 8] [8] [] _ _ (sN (sY (sY (sY (sY (sY (sY (sY (sY (sY sE)))))))))) (fun _ h => h) Try.mixed (by kernel_rfl) ?_
   refine tM (vP tb) rfl (tQ (Value.pointer (some ⟨b13, 2, none⟩)) rfl (tR dv4 rfl (fun A w M => (Step.load1 Try.sc96 rfl ((M.cell 5 rfl 2).trans rfl))) (tM (vI ↑i) rfl (tP (vI (↑(i + 1))) rfl (fun w => (Step.cast (congrArg (Value.int .i64) (show (↑i + 1 : Int) = ↑(i + 1) by omega)) (Step.add rfl rfl (wrap_i64 (by omega))))) (tP (vQ dv4 (i + 1) 2) rfl (fun w => (sX (i + 1) Try.un96 Try.el92 rfl rfl hb16)) (tR (Value.agg #[(vI x22.at_), (vI x22.turn)]) rfl (fun A w M => (Step.loadEN (k := 0) (cs' := [(vI x22.at_), (vI x22.turn)]) Try.ag92 (flat_ec (oW (M.chunk 7 rfl).inv) hx22 handleE_len) (by decide) rfl rfl rfl)) (tR (Value.agg #[(vB nb_.leaf), (vSlice 1 (at_ + 1) ((na_.keys ++ ((n.keys.drop i).take 1 ++ nb_.keys)).length) (vCap v73) v73), (vSlice 2 (at_ + 1) ((na_.kids ++ nb_.kids).length) (vCap v91) v91), (vSlice 1 (at_ + 1) ((na_.vals ++ ((n.vals.drop i).take 1 ++ nb_.vals)).length) (vCap v85) v85)]) rfl (fun A w M => (Step.loadN Try.ag99 rfl (M.blk 4 rfl) (nL rfl) rfl)) ?_)))))))
   let Q : List Chunk := [oH v91 (na_.kids ++ nb_.kids), oI v85 (na_.vals ++ ((n.vals.drop i).take 1 ++ nb_.vals)), oS v73 (na_.keys ++ ((n.keys.drop i).take 1 ++ nb_.keys)), bk b63 #[(vB nb_.leaf), (vSlice 1 (at_ + 1) ((na_.keys ++ ((n.keys.drop i).take 1 ++ nb_.keys)).length) (vCap v73) v73), (vSlice 2 (at_ + 1) ((na_.kids ++ nb_.kids).length) (vCap v91) v91), (vSlice 1 (at_ + 1) ((na_.vals ++ ((n.vals.drop i).take 1 ++ nb_.vals)).length) (vCap v85) v85)] 99, bk b13 #[(vB n.leaf), kv3, dv4, vv5] 99, own 9 1 kv3 n.keys.length (pre107 ++ ([(vS x100)] ++ post108)), oH dv4 n.kids, own 3 1 vv5 n.vals.length (pre115 ++ ([(vI x103)] ++ post116)), bk b1 #[(vI h.at_), (vI h.turn)] 92]
   refine TW.callX (ι := (Nat → Prop)) (fun jx v_ => v_ = undef) (fun jx => arenaC 143 145 jx ab ((rput l1_ x22 (⟨nb_.leaf, ((na_.keys ++ ((n.keys.drop i).take 1 ++ nb_.keys)).drop (at_ + 1)).take (((na_.keys ++ ((n.keys.drop i).take 1 ++ nb_.keys)).length) - (at_ + 1)), ((na_.kids ++ nb_.kids).drop (at_ + 1)).take (((na_.kids ++ nb_.kids).length) - (at_ + 1)), ((na_.vals ++ ((n.vals.drop i).take 1 ++ nb_.vals)).drop (at_ + 1)).take (((na_.vals ++ ((n.vals.drop i).take 1 ++ nb_.vals)).length) - (at_ + 1))⟩ : Nd)).1) :: Q) (fun jx => [bF tb #[(vP ab), (vI r.at_), (vI r.turn), (vB fu), (vI ln)] 94]) rfl (by decide) rfl (fun jx => (sN (sY (sY (sY (sY (sY (sY (sY (sY (sY sE))))))))))) (fun jx r h => h) (fun A w M => have fq := M.frm [arenaC 143 145 S141 ab l1_] (fl A :: Q) [1, 0, 2, 3, 4, 5, 6, 7, 8, 9, 10] rfl; Rets.mono (tr_put tb ab r fu ln l1_ S141 x22 (vSlice 1 (at_ + 1) ((na_.keys ++ ((n.keys.drop i).take 1 ++ nb_.keys)).length) (vCap v73) v73) (vSlice 2 (at_ + 1) ((na_.kids ++ nb_.kids).length) (vCap v91) v91) (vSlice 1 (at_ + 1) ((na_.vals ++ ((n.vals.drop i).take 1 ++ nb_.vals)).length) (vCap v85) v85) (⟨nb_.leaf, ((na_.keys ++ ((n.keys.drop i).take 1 ++ nb_.keys)).drop (at_ + 1)).take (((na_.keys ++ ((n.keys.drop i).take 1 ++ nb_.keys)).length) - (at_ + 1)), ((na_.kids ++ nb_.kids).drop (at_ + 1)).take (((na_.kids ++ nb_.kids).length) - (at_ + 1)), ((na_.vals ++ ((n.vals.drop i).take 1 ++ nb_.vals)).drop (at_ + 1)).take (((na_.vals ++ ((n.vals.drop i).take 1 ++ nb_.vals)).length) - (at_ + 1))⟩ : Nd) (by assumption) (by simp [insL] <;> omega) (by simp [insL] <;> omega) (by simp [insL] <;> omega) (M.eF fq ⟨(M.rF fq 0 rfl), ((((M.cF fq 3 rfl).imp fun _ h => oW h)).imp fun _ h => slat_sliceF strE_len (l := at_ + 1) (h := (na_.keys ++ ((n.keys.drop i).take 1 ++ nb_.keys)).length) h (by omega) (by omega) (Nat.le_trans (by omega) (SlAt.cap h).1) (Nat.le_refl _)), ((((M.cF fq 1 rfl).imp fun _ h => oW h)).imp fun _ h => slat_sliceF handleE_len (l := at_ + 1) (h := (na_.kids ++ nb_.kids).length) h (by omega) (by omega) (Nat.le_trans (by omega) (SlAt.cap h).1) (Nat.le_refl _)), ((((M.cF fq 2 rfl).imp fun _ h => oW h)).imp fun _ h => slat_sliceF intE_len (l := at_ + 1) (h := (na_.vals ++ ((n.vals.drop i).take 1 ++ nb_.vals)).length) h (by omega) (by omega) (Nat.le_trans (by omega) (SlAt.cap h).1) (Nat.le_refl _)), trivial⟩)) (fun v_ w_ ⟨S145, e_, m⟩ => ⟨S145, e_, (M.lF fq m).sel [1, 0, 2, 3, 4, 5, 6, 7, 8, 9, 10] rfl (by decide), fun b hb => M.kF fq m b hb⟩)) (fun w => CallsF.func Try.en84 rfl) (fun S145 v hp hin => ?_)
   replace hp := hp.symm; subst hp
   obtain ⟨_, _, hin⟩ := hin
   clear hin
   refine TW.done (fun w146 M => ?_)
   replace M := M.loseI 4
   replace M := M.loseI 3
   replace M := M.loseI 2
   replace M := M.loseI 1
   obtain ⟨l2_, hl2_⟩ : ∃ q, ((rput l1_ x22 (⟨nb_.leaf, ((na_.keys ++ ((n.keys.drop i).take 1 ++ nb_.keys)).drop (at_ + 1)).take (((na_.keys ++ ((n.keys.drop i).take 1 ++ nb_.keys)).length) - (at_ + 1)), ((na_.kids ++ nb_.kids).drop (at_ + 1)).take (((na_.kids ++ nb_.kids).length) - (at_ + 1)), ((na_.vals ++ ((n.vals.drop i).take 1 ++ nb_.vals)).drop (at_ + 1)).take (((na_.vals ++ ((n.vals.drop i).take 1 ++ nb_.vals)).length) - (at_ + 1))⟩ : Nd)).1) = q := ⟨_, rfl⟩
   have hAl2_ : SmallA l2_ := by rw [← hl2_]; first | exact SmallA.put (by assumption) (by first | omega | (simp [insL] <;> omega)) (by first | omega | (simp [insL] <;> omega)) (by first | omega | (simp [insL] <;> omega)) | exact SmallA.free (by assumption)
   replace M := M.rechunk 0 (c' := arenaC 143 145 S145 ab l2_) rfl (by rw [hl2_])
   refine W.region rfl (wM (vP tb) (wS (Value.agg #[(vI h.at_), (vI h.turn)]) rfl (Step.loadN Try.ag92 rfl (M.blk 5 rfl) (nL rfl) rfl) (wS (Value.agg #[(vB n.leaf), kv3, dv4, vv5]) rfl (Step.loadN Try.ag99 rfl (M.blk 1 rfl) (nL rfl) rfl) ?_)))
   replace M := M.rechunk 2 (c' := own 9 1 kv3 (n.keys.length) ((n.keys.set i x100).flatMap strE)) rfl (by rw [← hback111]; rfl)
   replace M := M.rechunk 2 (c' := oS kv3 (n.keys.set i x100)) rfl (by show _ = own 9 1 kv3 ((n.keys.set i x100).length) ((n.keys.set i x100).flatMap strE); rw [List.length_set])
   replace M := M.rechunk 4 (c' := own 3 1 vv5 (n.vals.length) ((n.vals.set i x103).flatMap intE)) rfl (by rw [← hback119]; rfl)
   replace M := M.rechunk 4 (c' := oI vv5 (n.vals.set i x103)) rfl (by show _ = own 3 1 vv5 ((n.vals.set i x103).length) ((n.vals.set i x103).flatMap intE); rw [List.length_set])
   have fq := M.frm [arenaC 143 145 S145 ab l2_] [bk b13 #[(vB n.leaf), kv3, dv4, vv5] 99, oS kv3 (n.keys.set i x100), oH dv4 n.kids, oI vv5 (n.vals.set i x103), bk b1 #[(vI h.at_), (vI h.turn)] 92] [0, 1, 2, 3, 4, 5] rfl
   refine WL.callX rfl (tr_put tb ab r fu ln l2_ S145 h kv3 dv4 vv5 (⟨n.leaf, n.keys.set i x100, n.kids, n.vals.set i x103⟩ : Nd) (by assumption) (by simp [insL] <;> omega) (by simp [insL] <;> omega) (by simp [insL] <;> omega) (M.eF fq ⟨(M.rF fq 0 rfl), ((M.cF fq 1 rfl).imp fun _ h => oW h), ((M.cF fq 2 rfl).imp fun _ h => oW h), ((M.cF fq 3 rfl).imp fun _ h => oW h), trivial⟩)) (CallsF.func Try.en84 rfl) ?_
   rintro _ w148 ⟨S147, rfl, m⟩
   replace M := M.lF fq m
   clear m
   refine WL.nil ?_
   refine ⟨.inr rfl, undef, ?_, ?_⟩
   · exact ⟨rfl, Res.none⟩
   have e149 : (turnF l h i lw) = (rput l2_ h (⟨n.leaf, n.keys.set i x100, n.kids, n.vals.set i x103⟩ : Nd)).1 := by
    rw [turnF_eq (at_ := at_) hn hgd1_ hgd2_ hna_ hnb_ hat_]
    subst hl2_
    subst hl1_
    simp only [drop_rest]
    simp [hlf_, hlfb_, drop_rest, List.getD, hx18, hx22, hx100, hx103, hx106, hx114, h132]
   replace M := M.rechunk 0 (c' := arenaC 143 145 S147 ab (turnF l h i lw)) rfl (congrArg (fun z => arenaC 143 145 S147 ab z) e149.symm)
   refine ⟨S147, ?_, M.close [0] rfl (by decide) trivial⟩
   rfl
  ·
   have hlf_ : na_.leaf = true := by simpa using h132
   refine W.skip (W.seq' ?_)
   replace M := M.loseI 0
   refine W.drawn M [0, 1, 2, 3, 4, 5, 6, 7] [7] [] _ _ (sY (sY (sY (sY (sY (sY (sY (sN (sY (sY (sY (sY sE)))))))))))) (fun _ h => h) Try.mixed (by kernel_rfl) ?_
   refine tM (vP tb) rfl (tQ (Value.pointer (some ⟨b13, 2, none⟩)) rfl (tR dv4 rfl (fun A w M => (Step.load1 Try.sc96 rfl ((M.cell 7 rfl 2).trans rfl))) (tM (vI ↑i) rfl (tP (vQ dv4 i 2) rfl (fun w => (sX i Try.un96 Try.el92 rfl rfl hb16)) (tR (Value.agg #[(vI x18.at_), (vI x18.turn)]) rfl (fun A w M => (Step.loadEN (k := 0) (cs' := [(vI x18.at_), (vI x18.turn)]) Try.ag92 (flat_ec (oW (M.chunk 9 rfl).inv) hx18 handleE_len) (by decide) rfl rfl rfl)) (tR (Value.agg #[(vB na_.leaf), (vTake at_ v73), dv45, (vTake at_ v85)]) rfl (fun A w M => (Step.loadN Try.ag99 rfl (M.blk 4 rfl) (nL rfl) rfl)) ?_))))))
   let Q : List Chunk := [oI v85 (na_.vals ++ ((n.vals.drop i).take 1 ++ nb_.vals)), oS v73 (na_.keys ++ ((n.keys.drop i).take 1 ++ nb_.keys)), bk b63 #[(vB nb_.leaf), (vSlice 1 (at_ + 1) ((na_.keys ++ ((n.keys.drop i).take 1 ++ nb_.keys)).length) (vCap v73) v73), dv54, (vSlice 1 (at_ + 1) ((na_.vals ++ ((n.vals.drop i).take 1 ++ nb_.vals)).length) (vCap v85) v85)] 99, bk b62 #[(vB na_.leaf), (vTake at_ v73), dv45, (vTake at_ v85)] 99, oH dv54 nb_.kids, oH dv45 na_.kids, bk b13 #[(vB n.leaf), kv3, dv4, vv5] 99, own 9 1 kv3 n.keys.length (pre107 ++ ([(vS x100)] ++ post108)), oH dv4 n.kids, own 3 1 vv5 n.vals.length (pre115 ++ ([(vI x103)] ++ post116)), bk b1 #[(vI h.at_), (vI h.turn)] 92]
   refine TW.callX (ι := (Nat → Prop)) (fun jx v_ => v_ = undef) (fun jx => arenaC 143 145 jx ab ((rput l x18 (⟨na_.leaf, (na_.keys ++ ((n.keys.drop i).take 1 ++ nb_.keys)).take at_, na_.kids, (na_.vals ++ ((n.vals.drop i).take 1 ++ nb_.vals)).take at_⟩ : Nd)).1) :: Q) (fun jx => [bF tb #[(vP ab), (vI r.at_), (vI r.turn), (vB fu), (vI ln)] 94]) rfl (by decide) rfl (fun jx => (sN (sY (sY (sY (sY (sY (sY (sY (sY (sY (sY (sY sE))))))))))))) (fun jx r h => h) (fun A w M => have fq := M.frm [arenaC 143 145 S ab l] (fl A :: Q) [8, 0, 1, 2, 3, 4, 5, 6, 7, 9, 10, 11, 12] rfl; Rets.mono (tr_put tb ab r fu ln l S x18 (vTake at_ v73) dv45 (vTake at_ v85) (⟨na_.leaf, (na_.keys ++ ((n.keys.drop i).take 1 ++ nb_.keys)).take at_, na_.kids, (na_.vals ++ ((n.vals.drop i).take 1 ++ nb_.vals)).take at_⟩ : Nd) (by assumption) (by simp [insL] <;> omega) (by simp [insL] <;> omega) (by simp [insL] <;> omega) (M.eF fq ⟨(M.rF fq 0 rfl), ((((M.cF fq 2 rfl).imp fun _ h => oW h)).imp fun _ h => slat_take strE_len h (by omega)), ((M.cF fq 6 rfl).imp fun _ h => oW h), ((((M.cF fq 1 rfl).imp fun _ h => oW h)).imp fun _ h => slat_take intE_len h (by omega)), trivial⟩)) (fun v_ w_ ⟨S152, e_, m⟩ => ⟨S152, e_, (M.lF fq m).sel [1, 0, 2, 3, 4, 5, 6, 7, 8, 9, 10, 11, 12] rfl (by decide), fun b hb => M.kF fq m b hb⟩)) (fun w => CallsF.func Try.en84 rfl) (fun S152 v hp hin => ?_)
   replace hp := hp.symm; subst hp
   obtain ⟨_, _, hin⟩ := hin
   clear hin
   refine TW.done (fun w153 M => ?_)
   refine W.seq' ?_
   replace M := M.loseI 6
   replace M := M.loseI 4
   obtain ⟨l1_, hl1_⟩ : ∃ q, ((rput l x18 (⟨na_.leaf, (na_.keys ++ ((n.keys.drop i).take 1 ++ nb_.keys)).take at_, na_.kids, (na_.vals ++ ((n.vals.drop i).take 1 ++ nb_.vals)).take at_⟩ : Nd)).1) = q := ⟨_, rfl⟩
   have hAl1_ : SmallA l1_ := by rw [← hl1_]; first | exact SmallA.put (by assumption) (by first | omega | (simp [insL] <;> omega)) (by first | omega | (simp [insL] <;> omega)) (by first | omega | (simp [insL] <;> omega)) | exact SmallA.free (by assumption)
   replace M := M.rechunk 0 (c' := arenaC 143 145 S152 ab l1_) rfl (by rw [hl1_])
   refine W.drawn M [0, 1, 2, 3, 4, 5, 6, 7, 8] [8] [] _ _ (sN (sY (sY (sY (sY (sY (sY (sY (sY (sY sE)))))))))) (fun _ h => h) Try.mixed (by kernel_rfl) ?_
   refine tM (vP tb) rfl (tQ (Value.pointer (some ⟨b13, 2, none⟩)) rfl (tR dv4 rfl (fun A w M => (Step.load1 Try.sc96 rfl ((M.cell 5 rfl 2).trans rfl))) (tM (vI ↑i) rfl (tP (vI (↑(i + 1))) rfl (fun w => (Step.cast (congrArg (Value.int .i64) (show (↑i + 1 : Int) = ↑(i + 1) by omega)) (Step.add rfl rfl (wrap_i64 (by omega))))) (tP (vQ dv4 (i + 1) 2) rfl (fun w => (sX (i + 1) Try.un96 Try.el92 rfl rfl hb16)) (tR (Value.agg #[(vI x22.at_), (vI x22.turn)]) rfl (fun A w M => (Step.loadEN (k := 0) (cs' := [(vI x22.at_), (vI x22.turn)]) Try.ag92 (flat_ec (oW (M.chunk 7 rfl).inv) hx22 handleE_len) (by decide) rfl rfl rfl)) (tR (Value.agg #[(vB nb_.leaf), (vSlice 1 (at_ + 1) ((na_.keys ++ ((n.keys.drop i).take 1 ++ nb_.keys)).length) (vCap v73) v73), dv54, (vSlice 1 (at_ + 1) ((na_.vals ++ ((n.vals.drop i).take 1 ++ nb_.vals)).length) (vCap v85) v85)]) rfl (fun A w M => (Step.loadN Try.ag99 rfl (M.blk 3 rfl) (nL rfl) rfl)) ?_)))))))
   let Q : List Chunk := [oI v85 (na_.vals ++ ((n.vals.drop i).take 1 ++ nb_.vals)), oS v73 (na_.keys ++ ((n.keys.drop i).take 1 ++ nb_.keys)), bk b63 #[(vB nb_.leaf), (vSlice 1 (at_ + 1) ((na_.keys ++ ((n.keys.drop i).take 1 ++ nb_.keys)).length) (vCap v73) v73), dv54, (vSlice 1 (at_ + 1) ((na_.vals ++ ((n.vals.drop i).take 1 ++ nb_.vals)).length) (vCap v85) v85)] 99, oH dv54 nb_.kids, bk b13 #[(vB n.leaf), kv3, dv4, vv5] 99, own 9 1 kv3 n.keys.length (pre107 ++ ([(vS x100)] ++ post108)), oH dv4 n.kids, own 3 1 vv5 n.vals.length (pre115 ++ ([(vI x103)] ++ post116)), bk b1 #[(vI h.at_), (vI h.turn)] 92]
   refine TW.callX (ι := (Nat → Prop)) (fun jx v_ => v_ = undef) (fun jx => arenaC 143 145 jx ab ((rput l1_ x22 (⟨nb_.leaf, ((na_.keys ++ ((n.keys.drop i).take 1 ++ nb_.keys)).drop (at_ + 1)).take (((na_.keys ++ ((n.keys.drop i).take 1 ++ nb_.keys)).length) - (at_ + 1)), nb_.kids, ((na_.vals ++ ((n.vals.drop i).take 1 ++ nb_.vals)).drop (at_ + 1)).take (((na_.vals ++ ((n.vals.drop i).take 1 ++ nb_.vals)).length) - (at_ + 1))⟩ : Nd)).1) :: Q) (fun jx => [bF tb #[(vP ab), (vI r.at_), (vI r.turn), (vB fu), (vI ln)] 94]) rfl (by decide) rfl (fun jx => (sN (sY (sY (sY (sY (sY (sY (sY (sY (sY sE))))))))))) (fun jx r h => h) (fun A w M => have fq := M.frm [arenaC 143 145 S152 ab l1_] (fl A :: Q) [1, 0, 2, 3, 4, 5, 6, 7, 8, 9, 10] rfl; Rets.mono (tr_put tb ab r fu ln l1_ S152 x22 (vSlice 1 (at_ + 1) ((na_.keys ++ ((n.keys.drop i).take 1 ++ nb_.keys)).length) (vCap v73) v73) dv54 (vSlice 1 (at_ + 1) ((na_.vals ++ ((n.vals.drop i).take 1 ++ nb_.vals)).length) (vCap v85) v85) (⟨nb_.leaf, ((na_.keys ++ ((n.keys.drop i).take 1 ++ nb_.keys)).drop (at_ + 1)).take (((na_.keys ++ ((n.keys.drop i).take 1 ++ nb_.keys)).length) - (at_ + 1)), nb_.kids, ((na_.vals ++ ((n.vals.drop i).take 1 ++ nb_.vals)).drop (at_ + 1)).take (((na_.vals ++ ((n.vals.drop i).take 1 ++ nb_.vals)).length) - (at_ + 1))⟩ : Nd) (by assumption) (by simp [insL] <;> omega) (by simp [insL] <;> omega) (by simp [insL] <;> omega) (M.eF fq ⟨(M.rF fq 0 rfl), ((((M.cF fq 2 rfl).imp fun _ h => oW h)).imp fun _ h => slat_sliceF strE_len (l := at_ + 1) (h := (na_.keys ++ ((n.keys.drop i).take 1 ++ nb_.keys)).length) h (by omega) (by omega) (Nat.le_trans (by omega) (SlAt.cap h).1) (Nat.le_refl _)), ((M.cF fq 4 rfl).imp fun _ h => oW h), ((((M.cF fq 1 rfl).imp fun _ h => oW h)).imp fun _ h => slat_sliceF intE_len (l := at_ + 1) (h := (na_.vals ++ ((n.vals.drop i).take 1 ++ nb_.vals)).length) h (by omega) (by omega) (Nat.le_trans (by omega) (SlAt.cap h).1) (Nat.le_refl _)), trivial⟩)) (fun v_ w_ ⟨S156, e_, m⟩ => ⟨S156, e_, (M.lF fq m).sel [1, 0, 2, 3, 4, 5, 6, 7, 8, 9, 10] rfl (by decide), fun b hb => M.kF fq m b hb⟩)) (fun w => CallsF.func Try.en84 rfl) (fun S156 v hp hin => ?_)
   replace hp := hp.symm; subst hp
   obtain ⟨_, _, hin⟩ := hin
   clear hin
   refine TW.done (fun w157 M => ?_)
   replace M := M.loseI 4
   replace M := M.loseI 3
   replace M := M.loseI 2
   replace M := M.loseI 1
   obtain ⟨l2_, hl2_⟩ : ∃ q, ((rput l1_ x22 (⟨nb_.leaf, ((na_.keys ++ ((n.keys.drop i).take 1 ++ nb_.keys)).drop (at_ + 1)).take (((na_.keys ++ ((n.keys.drop i).take 1 ++ nb_.keys)).length) - (at_ + 1)), nb_.kids, ((na_.vals ++ ((n.vals.drop i).take 1 ++ nb_.vals)).drop (at_ + 1)).take (((na_.vals ++ ((n.vals.drop i).take 1 ++ nb_.vals)).length) - (at_ + 1))⟩ : Nd)).1) = q := ⟨_, rfl⟩
   have hAl2_ : SmallA l2_ := by rw [← hl2_]; first | exact SmallA.put (by assumption) (by first | omega | (simp [insL] <;> omega)) (by first | omega | (simp [insL] <;> omega)) (by first | omega | (simp [insL] <;> omega)) | exact SmallA.free (by assumption)
   replace M := M.rechunk 0 (c' := arenaC 143 145 S156 ab l2_) rfl (by rw [hl2_])
   refine W.region rfl (wM (vP tb) (wS (Value.agg #[(vI h.at_), (vI h.turn)]) rfl (Step.loadN Try.ag92 rfl (M.blk 5 rfl) (nL rfl) rfl) (wS (Value.agg #[(vB n.leaf), kv3, dv4, vv5]) rfl (Step.loadN Try.ag99 rfl (M.blk 1 rfl) (nL rfl) rfl) ?_)))
   replace M := M.rechunk 2 (c' := own 9 1 kv3 (n.keys.length) ((n.keys.set i x100).flatMap strE)) rfl (by rw [← hback111]; rfl)
   replace M := M.rechunk 2 (c' := oS kv3 (n.keys.set i x100)) rfl (by show _ = own 9 1 kv3 ((n.keys.set i x100).length) ((n.keys.set i x100).flatMap strE); rw [List.length_set])
   replace M := M.rechunk 4 (c' := own 3 1 vv5 (n.vals.length) ((n.vals.set i x103).flatMap intE)) rfl (by rw [← hback119]; rfl)
   replace M := M.rechunk 4 (c' := oI vv5 (n.vals.set i x103)) rfl (by show _ = own 3 1 vv5 ((n.vals.set i x103).length) ((n.vals.set i x103).flatMap intE); rw [List.length_set])
   have fq := M.frm [arenaC 143 145 S156 ab l2_] [bk b13 #[(vB n.leaf), kv3, dv4, vv5] 99, oS kv3 (n.keys.set i x100), oH dv4 n.kids, oI vv5 (n.vals.set i x103), bk b1 #[(vI h.at_), (vI h.turn)] 92] [0, 1, 2, 3, 4, 5] rfl
   refine WL.callX rfl (tr_put tb ab r fu ln l2_ S156 h kv3 dv4 vv5 (⟨n.leaf, n.keys.set i x100, n.kids, n.vals.set i x103⟩ : Nd) (by assumption) (by simp [insL] <;> omega) (by simp [insL] <;> omega) (by simp [insL] <;> omega) (M.eF fq ⟨(M.rF fq 0 rfl), ((M.cF fq 1 rfl).imp fun _ h => oW h), ((M.cF fq 2 rfl).imp fun _ h => oW h), ((M.cF fq 3 rfl).imp fun _ h => oW h), trivial⟩)) (CallsF.func Try.en84 rfl) ?_
   rintro _ w159 ⟨S158, rfl, m⟩
   replace M := M.lF fq m
   clear m
   refine WL.nil ?_
   refine ⟨.inr rfl, undef, ?_, ?_⟩
   · exact ⟨rfl, Res.none⟩
   have e160 : (turnF l h i lw) = (rput l2_ h (⟨n.leaf, n.keys.set i x100, n.kids, n.vals.set i x103⟩ : Nd)).1 := by
    rw [turnF_eq (at_ := at_) hn hgd1_ hgd2_ hna_ hnb_ hat_]
    subst hl2_
    subst hl1_
    simp only [drop_rest]
    simp [hlf_, hlfb_, drop_rest, List.getD, hx18, hx22, hx100, hx103, hx106, hx114, h132]
   replace M := M.rechunk 0 (c' := arenaC 143 145 S158 ab (turnF l h i lw)) rfl (congrArg (fun z => arenaC 143 145 S158 ab z) e160.symm)
   refine ⟨S158, ?_, M.close [0] rfl (by decide) trivial⟩
   rfl
end Go.Proofs
set_option maxRecDepth 100000
namespace Go.Proofs
open Go Tp
theorem Try.en50 : Enters Try.prog 50 := fun _ _ => by kernel_rfl
theorem Try.en89 : Enters Try.prog 89 := fun _ _ => by kernel_rfl
theorem Try.en90 : Enters Try.prog 90 := fun _ _ => by kernel_rfl
theorem Try.en130 : Enters Try.prog 130 := fun _ _ => by kernel_rfl
set_option maxHeartbeats 4000000 in
theorem tr_join {G X : Nat → Prop} {w : World} (tb ab : Nat) (r : Handle) (fu : Bool) (ln : Int) (l : List RPlace) (S : Nat → Prop) (h : Handle) (i : Nat)  (hO : pairOk l h i) (M : Mem G X w [arenaC 143 145 S ab l] [bF tb #[(vP ab), (vI r.at_), (vI r.turn), (vB fu), (vI ln)] 94] w) : Rets Try.prog 120 #[(vP tb), (Value.agg #[(vI h.at_), (vI h.turn)]), (vI ↑i)] w fun r w' => ∃ (S' : Nat → Prop), r = undef ∧ Mem G X w [arenaC 143 145 S' ab (joinF l h i)] [] w' := by
 refine Rets.enter 106 _ Try.func120 rfl Try.ntmps120 Try.results120 (by simp) ?_
 obtain ⟨n, hn⟩ : ∃ n, (rget l h).1 = n := ⟨_, rfl⟩
 obtain ⟨hA, hty, hvl, hin_, hkn_⟩ := pairOk_n hO hn
 obtain ⟨ht1, ht2, ht3⟩ := hty
 refine wR ?_
 refine WL.box (v := (Value.agg #[(vI h.at_), (vI h.turn)])) (c := #[(vI h.at_), (vI h.turn)]) M rfl rfl rfl (fun b1 w2 hb1 M => ?_)
 refine WL.nil (wR (wM (vP tb) (wS (Value.agg #[(vI h.at_), (vI h.turn)]) rfl (Step.loadN Try.ag92 rfl (M.blk 0 rfl) (nL rfl) rfl) ?_)))
 have fq := M.frm [arenaC 143 145 S ab l] [bk b1 #[(vI h.at_), (vI h.turn)] 92] [1, 0] rfl
 refine WL.callX rfl (tr_node tb ab r fu ln l S h (by assumption) n hn (M.eF fq ⟨(M.rF fq 0 rfl), trivial⟩)) (CallsF.func Try.en49 rfl) ?_
 rintro _ w6 ⟨kv3, dv4, vv5, rfl, m⟩
 replace M := M.lF fq m
 clear m
 have sl7 : IsSl kv3 := SlAt.isSl (oW (Mem.chunk M 1 rfl).inv)
 have hle8 := SlAt.le' (oW (Mem.chunk M 1 rfl).inv)
 have sl9 : IsSl dv4 := SlAt.isSl (oW (Mem.chunk M 2 rfl).inv)
 have hle10 := SlAt.le' (oW (Mem.chunk M 2 rfl).inv)
 have sl11 : IsSl vv5 := SlAt.isSl (oW (Mem.chunk M 3 rfl).inv)
 have hle12 := SlAt.le' (oW (Mem.chunk M 3 rfl).inv)
 refine WL.alloc (c := #[(vB false), vZ, vZ, vZ]) M rfl Try.el99.zero rfl (fun b13 w14 hb13 M => ?_)
 refine WL.store (v := (Value.agg #[(vB n.leaf), kv3, dv4, vv5])) (cs := [(vB n.leaf), kv3, dv4, vv5]) (c' := #[(vB n.leaf), kv3, dv4, vv5]) M 0 rfl rfl Try.el99.sized rfl rfl rfl rfl (nL rfl) (cC rfl (cC (IsSl.cel sl7) (cC (IsSl.cel sl9) (cC (IsSl.cel sl11) cel_nil)))) rfl rfl (fun w15 M => ?_)
 refine WL.nil (W.seq' ?_)
 obtain ⟨cap17, hb16⟩ := SlAt.base (oW (M.chunk 3 rfl).inv) (by omega)
 obtain ⟨x18, hx18⟩ := elem_of_lt (xs := n.kids) (i := i) (by omega)
 have hgd1_ : n.kids.getD i hdZero = x18 := by rw [List.getD_eq_getElem?_getD, hx18]; rfl
 obtain ⟨x22, hx22⟩ := elem_of_lt (xs := n.kids) (i := i + 1) (by omega)
 have hgd2_ : n.kids.getD (i + 1) hdZero = x22 := by rw [List.getD_eq_getElem?_getD, hx22]; rfl
 refine W.drawn M [0, 1, 2, 3, 4, 5, 6, 7, 8, 9, 10, 11, 12, 13, 14, 15, 16, 17, 18] [6, 14, 17, 18] [15, 16] _ _ (sY (sY (sY (sY (sY (sY sE)))))) (fun _ h => h) Try.mixed (by kernel_rfl) ?_
 refine tM (vP tb) rfl (tQ (Value.pointer (some ⟨b13, 2, none⟩)) rfl (tR dv4 rfl (fun A w M => (Step.load1 Try.sc96 rfl ((M.cell 1 rfl 2).trans rfl))) (tM (vI ↑i) rfl (tP (vQ dv4 i 2) rfl (fun w => (sX i Try.un96 Try.el92 rfl rfl hb16)) (tR (Value.agg #[(vI x18.at_), (vI x18.turn)]) rfl (fun A w M => (Step.loadEN (k := 0) (cs' := [(vI x18.at_), (vI x18.turn)]) Try.ag92 (flat_ec (oW (M.chunk 4 rfl).inv) hx18 handleE_len) (by decide) rfl rfl rfl)) ?_)))))
 obtain ⟨na_, hna_⟩ : ∃ n, (rget l x18).1 = n := ⟨_, rfl⟩
 let Q : List Chunk := [bk b13 #[(vB n.leaf), kv3, dv4, vv5] 99, oS kv3 n.keys, oH dv4 n.kids, oI vv5 n.vals, bk b1 #[(vI h.at_), (vI h.turn)] 92]
 refine TW.callX (ι := Value × Value × Value) (fun jx v_ => v_ = (Value.agg #[(vB na_.leaf), jx.1, jx.2.1, jx.2.2])) (fun jx => [oS jx.1 na_.keys, oH jx.2.1 na_.kids, oI jx.2.2 na_.vals, bk b13 #[(vB n.leaf), kv3, dv4, vv5] 99, arenaC 143 145 S ab l, oS kv3 n.keys, oH dv4 n.kids, oI vv5 n.vals, bk b1 #[(vI h.at_), (vI h.turn)] 92]) (fun jx => [bF tb #[(vP ab), (vI r.at_), (vI r.turn), (vB fu), (vI ln)] 94]) rfl (by decide) rfl (fun jx => (sN (sN (sN (sY (sY (sY (sY (sY (sY sE)))))))))) (fun jx r h => h) (fun A w M => have fq := M.frm [arenaC 143 145 S ab l] (fl A :: Q) [2, 0, 1, 3, 4, 5, 6] rfl; Rets.mono (tr_node tb ab r fu ln l S x18 (by assumption) na_ hna_ (M.eF fq ⟨(M.rF fq 0 rfl), trivial⟩)) (fun v_ w_ ⟨kv44, dv45, vv46, e_, m⟩ => ⟨(kv44, dv45, vv46), e_, (M.lF fq m).sel [4, 1, 2, 3, 5, 0, 6, 7, 8, 9] rfl (by decide), fun b hb => M.kF fq m b hb⟩)) (fun w => CallsF.func Try.en49 rfl) (fun jx v hp hin => ?_)
 obtain ⟨kv44, dv45, vv46⟩ := jx
 replace hp := hp.symm; subst hp
 obtain ⟨_, _, hin⟩ := hin
 have sl47 : IsSl kv44 := SlAt.isSl (oW (Mem.chunk hin 1 rfl).inv)
 have hle48 := SlAt.le' (oW (Mem.chunk hin 1 rfl).inv)
 have sl49 : IsSl dv45 := SlAt.isSl (oW (Mem.chunk hin 2 rfl).inv)
 have hle50 := SlAt.le' (oW (Mem.chunk hin 2 rfl).inv)
 have sl51 : IsSl vv46 := SlAt.isSl (oW (Mem.chunk hin 3 rfl).inv)
 have hle52 := SlAt.le' (oW (Mem.chunk hin 3 rfl).inv)
 clear hin
 refine tM (vP tb) rfl (tQ (Value.pointer (some ⟨b13, 2, none⟩)) rfl (tR dv4 rfl (fun A w M => (Step.load1 Try.sc96 rfl ((M.cell 1 rfl 2).trans rfl))) (tM (vI ↑i) rfl (tP (vI (↑(i + 1))) rfl (fun w => (Step.cast (congrArg (Value.int .i64) (show (↑i + 1 : Int) = ↑(i + 1) by omega)) (Step.add rfl rfl (wrap_i64 (by omega))))) (tP (vQ dv4 (i + 1) 2) rfl (fun w => (sX (i + 1) Try.un96 Try.el92 rfl rfl hb16)) (tR (Value.agg #[(vI x22.at_), (vI x22.turn)]) rfl (fun A w M => (Step.loadEN (k := 0) (cs' := [(vI x22.at_), (vI x22.turn)]) Try.ag92 (flat_ec (oW (M.chunk 4 rfl).inv) hx22 handleE_len) (by decide) rfl rfl rfl)) ?_))))))
 obtain ⟨nb_, hnb_⟩ : ∃ n, (rget l x22).1 = n := ⟨_, rfl⟩
 have hP := pairOk_at hO hn hgd1_ hgd2_ hna_ hnb_
 obtain ⟨hta1, hta2, hta3⟩ := hP.a_
 obtain ⟨htb1, htb2, htb3⟩ := hP.b_
 have hal_ := hP.al
 have hbl_ := hP.bl
 have ha1_ := hP.a1
 have hb1_ := hP.b1
 have hlfb_ := hP.lf
 let Q : List Chunk := [oS kv44 na_.keys, oH dv45 na_.kids, oI vv46 na_.vals, bk b13 #[(vB n.leaf), kv3, dv4, vv5] 99, oS kv3 n.keys, oH dv4 n.kids, oI vv5 n.vals, bk b1 #[(vI h.at_), (vI h.turn)] 92]
 refine TW.callX (ι := Value × Value × Value) (fun jx v_ => v_ = (Value.agg #[(vB nb_.leaf), jx.1, jx.2.1, jx.2.2])) (fun jx => [oS jx.1 nb_.keys, oH jx.2.1 nb_.kids, oI jx.2.2 nb_.vals, oS kv44 na_.keys, oH dv45 na_.kids, oI vv46 na_.vals, bk b13 #[(vB n.leaf), kv3, dv4, vv5] 99, arenaC 143 145 S ab l, oS kv3 n.keys, oH dv4 n.kids, oI vv5 n.vals, bk b1 #[(vI h.at_), (vI h.turn)] 92]) (fun jx => [bF tb #[(vP ab), (vI r.at_), (vI r.turn), (vB fu), (vI ln)] 94]) rfl (by decide) rfl (fun jx => (sN (sN (sN (sN (sN (sN (sY (sY (sY (sY (sY (sY sE))))))))))))) (fun jx r h => h) (fun A w M => have fq := M.frm [arenaC 143 145 S ab l] (fl A :: Q) [5, 0, 1, 2, 3, 4, 6, 7, 8, 9] rfl; Rets.mono (tr_node tb ab r fu ln l S x22 (by assumption) nb_ hnb_ (M.eF fq ⟨(M.rF fq 0 rfl), trivial⟩)) (fun v_ w_ ⟨kv53, dv54, vv55, e_, m⟩ => ⟨(kv53, dv54, vv55), e_, (M.lF fq m).sel [4, 1, 2, 3, 5, 6, 7, 8, 0, 9, 10, 11, 12] rfl (by decide), fun b hb => M.kF fq m b hb⟩)) (fun w => CallsF.func Try.en49 rfl) (fun jx v hp hin => ?_)
 obtain ⟨kv53, dv54, vv55⟩ := jx
 replace hp := hp.symm; subst hp
 obtain ⟨_, _, hin⟩ := hin
 have sl56 : IsSl kv53 := SlAt.isSl (oW (Mem.chunk hin 1 rfl).inv)
 have hle57 := SlAt.le' (oW (Mem.chunk hin 1 rfl).inv)
 have sl58 : IsSl dv54 := SlAt.isSl (oW (Mem.chunk hin 2 rfl).inv)
 have hle59 := SlAt.le' (oW (Mem.chunk hin 2 rfl).inv)
 have sl60 : IsSl vv55 := SlAt.isSl (oW (Mem.chunk hin 3 rfl).inv)
 have hle61 := SlAt.le' (oW (Mem.chunk hin 3 rfl).inv)
 clear hin
 refine TW.new (obj := .cells #[(vB false), vZ, vZ, vZ] 99) (fun b => .pointer (some ⟨b, 0, none⟩)) rfl (by decide) (by decide) rfl (fun w => Step.alloc Try.el99.zero) (fun b62 => ?_)
 refine TW.new (obj := .cells #[(vB false), vZ, vZ, vZ] 99) (fun b => .pointer (some ⟨b, 0, none⟩)) rfl (by decide) (by decide) rfl (fun w => Step.alloc Try.el99.zero) (fun b63 => ?_)
 refine TW.store (v := (Value.agg #[(vB na_.leaf), kv44, dv45, vv46])) (cs := [(vB na_.leaf), kv44, dv45, vv46]) (c' := #[(vB na_.leaf), kv44, dv45, vv46]) 1 rfl rfl (by decide) rfl Try.el99.sized rfl rfl rfl rfl (nL rfl) (cC rfl (cC (IsSl.cel sl47) (cC (IsSl.cel sl49) (cC (IsSl.cel sl51) cel_nil)))) rfl rfl (sN (sN (sN (sN (sN (sN (sN (sN (sY (sY (sY (sY (sY (sY sE)))))))))))))) (fun r h => h) ?_
 refine TW.store (v := (Value.agg #[(vB nb_.leaf), kv53, dv54, vv55])) (cs := [(vB nb_.leaf), kv53, dv54, vv55]) (c' := #[(vB nb_.leaf), kv53, dv54, vv55]) 0 rfl rfl (by decide) rfl Try.el99.sized rfl rfl rfl rfl (nL rfl) (cC rfl (cC (IsSl.cel sl56) (cC (IsSl.cel sl58) (cC (IsSl.cel sl60) cel_nil)))) rfl rfl (sN (sN (sN (sN (sN (sN (sN (sN (sY (sY (sY (sY (sY (sY sE)))))))))))))) (fun r h => h) ?_
 refine TW.done (fun w64 M => ?_)
 refine W.seq' ?_
 have hsh65 := SlAt.shp (oW (M.chunk 10 rfl).inv)
 have hsh65c := hsh65
 obtain ⟨_, _, hsh65l, hsh65m⟩ := hsh65c
 have hsh66 := SlAt.shp (oW (M.chunk 12 rfl).inv)
 have hsh66c := hsh66
 obtain ⟨_, _, hsh66l, hsh66m⟩ := hsh66c
 refine W.drawn2 M [0, 1, 2, 3, 4, 5, 6, 7, 8, 9, 12, 13, 14, 15, 16, 17, 18, 19, 20, 21, 10, 11, 24, 22, 23] [25, 26, 27] [11, 23, 25, 27] [10, 22] _ _ (sY (sY (sY (sY (sY (sY (sY (sY (sY (sY (sY (sY (sY (sY sE)))))))))))))) (fun _ h => h) Try.mixed (by kernel_rfl) ?_
 refine tQ (Value.pointer (some ⟨b62, 1, none⟩)) rfl (tR kv44 rfl (fun A w M => (Step.load1 Try.sc22 rfl ((M.cell 2 rfl 1).trans rfl))) (tQ (Value.pointer (some ⟨b13, 1, none⟩)) rfl (tR kv3 rfl (fun A w M => (Step.load1 Try.sc22 rfl ((M.cell 9 rfl 1).trans rfl))) (tM (vI ↑i) rfl (tM (vI ↑i) rfl (tP (vI (↑(i + 1))) rfl (fun w => (Step.cast (congrArg (Value.int .i64) (show (↑i + 1 : Int) = ↑(i + 1) by omega)) (Step.add rfl rfl (wrap_i64 (by omega))))) (tP (vSlice 1 i (i + 1) (vCap kv3) kv3) rfl (fun w => (Step.sliceLHP (l := i) (h := i + 1) Try.un22 Try.el9.sized rfl rfl (by omega) rfl (by omega) hsh65 (by omega) (by obtain ⟨_, _, _, _⟩ := hsh65; omega))) (tQ (Value.pointer (some ⟨b63, 1, none⟩)) rfl (tR kv53 rfl (fun A w M => (Step.load1 Try.sc22 rfl ((M.cell 1 rfl 1).trans rfl))) (tQ (Value.pointer (some ⟨b62, 3, none⟩)) rfl (tR vv46 rfl (fun A w M => (Step.load1 Try.sc97 rfl ((M.cell 2 rfl 3).trans rfl))) (tQ (Value.pointer (some ⟨b13, 3, none⟩)) rfl (tR vv5 rfl (fun A w M => (Step.load1 Try.sc97 rfl ((M.cell 9 rfl 3).trans rfl))) (tM (vI ↑i) rfl (tM (vI ↑i) rfl (tP (vI (↑(i + 1))) rfl (fun w => (Step.cast (congrArg (Value.int .i64) (show (↑i + 1 : Int) = ↑(i + 1) by omega)) (Step.add rfl rfl (wrap_i64 (by omega))))) (tP (vSlice 1 i (i + 1) (vCap vv5) vv5) rfl (fun w => (Step.sliceLHP (l := i) (h := i + 1) Try.un97 Try.el3.sized rfl rfl (by omega) rfl (by omega) hsh66 (by omega) (by obtain ⟨_, _, _, _⟩ := hsh66; omega))) (tQ (Value.pointer (some ⟨b63, 3, none⟩)) rfl (tR vv55 rfl (fun A w M => (Step.load1 Try.sc97 rfl ((M.cell 1 rfl 3).trans rfl))) ?_)))))))))))))))))))
 refine TW.new (obj := .cells #[kv44, (vSlice 1 i (i + 1) (vCap kv3) kv3), kv53] 22) (fun b => .slice (some ⟨b, 0, none⟩) 3 3) rfl (by decide) (by decide) rfl (fun w => (by obtain ⟨_, _, _, e⟩ := sl47; subst e; obtain ⟨_, _, _, e⟩ := (vSlice_sl (Shp.isSl hsh65)); rw [e]; obtain ⟨_, _, _, e⟩ := sl56; subst e; exact Step.make (by kernel_rfl))) (fun b95 => ?_)
 let Q : List Chunk := [bk b95 #[kv44, (vSlice 1 i (i + 1) (vCap kv3) kv3), kv53] 22, bk b63 #[(vB nb_.leaf), kv53, dv54, vv55] 99, bk b62 #[(vB na_.leaf), kv44, dv45, vv46] 99, oS kv53 nb_.keys, oH dv54 nb_.kids, oI vv55 nb_.vals, oS kv44 na_.keys, oH dv45 na_.kids, oI vv46 na_.vals, bk b13 #[(vB n.leaf), kv3, dv4, vv5] 99, arenaC 143 145 S ab l, oS kv3 n.keys, oH dv4 n.kids, oI vv5 n.vals, bk b1 #[(vI h.at_), (vI h.turn)] 92]
 refine TW.callX (ι := Value) (fun jx v_ => v_ = jx) (fun jx => oS jx (([na_.keys, (n.keys.drop i).take ((i + 1) - i), nb_.keys] : List (List ByteArray)).flatten) :: Q) (fun jx => [bF tb #[(vP ab), (vI r.at_), (vI r.turn), (vB fu), (vI ln)] 94]) rfl (by decide) rfl (fun jx => (sN (sN (sY (sY (sY (sY (sY (sY (sY (sY (sY (sY (sY (sY (sY (sY sE))))))))))))))))) (fun jx r h => h) (fun A w M => Rets.mono (concat_str (Value.slice (some ⟨b95, 0, none⟩) 3 3) ([na_.keys, (n.keys.drop i).take ((i + 1) - i), nb_.keys] : List (List ByteArray)) (by simp [sumL]; omega) (by simp) (M.enterW0 ⟨((((M.wideC0 1 rfl)).and (((M.wideC0 7 rfl).imp fun _ h => oW h).and (((((M.wideC0 12 rfl).imp fun _ h => oW h)).imp fun _ h => slat_sliceF strE_len (l := i) (h := i + 1) h (by omega) (by omega) (Nat.le_trans (by omega) (SlAt.cap h).1) (Nat.le_refl _)).and ((M.wideC0 4 rfl).imp fun _ h => oW h)))).imp fun _ ⟨hb_, hq0_, hq1_, hq2_⟩ => repS_blk (SlsT 1 strE) (cs := [kv44, (vSlice 1 i (i + 1) (vCap kv3) kv3), kv53]) (xs := [na_.keys, (n.keys.drop i).take ((i + 1) - i), nb_.keys]) hb_ rfl (by decide) (repL_snoc (T := (SlsT 1 strE)) (new := [kv53]) (x := nb_.keys) (repL_snoc (T := (SlsT 1 strE)) (new := [(vSlice 1 i (i + 1) (vCap kv3) kv3)]) (x := (n.keys.drop i).take ((i + 1) - i)) (repL_snoc (T := (SlsT 1 strE)) (new := [kv44]) (x := na_.keys) repL_nil (⟨_, rfl, hq0_⟩ : slRep 1 strE _ _ _)) (⟨_, rfl, hq1_⟩ : slRep 1 strE _ _ _)) (⟨_, rfl, hq2_⟩ : slRep 1 strE _ _ _))), trivial⟩)) (fun v_ w_ ⟨v96, e_, m⟩ => ⟨v96, e_, (M.leaveW0 m).sel [1, 0, 2, 3, 4, 5, 6, 7, 8, 9, 10, 11, 12, 13, 14, 15, 16] rfl (by decide), fun b hb => M.k0F m b hb⟩)) (fun w => CallsF.func Try.en127 rfl) (fun v96 v hp hin => ?_)
 replace hp := hp.symm; subst hp
 obtain ⟨_, _, hin⟩ := hin
 have sl97 : IsSl v96 := SlAt.isSl (oW (Mem.chunk hin 1 rfl).inv)
 have hle98 := SlAt.le' (oW (Mem.chunk hin 1 rfl).inv)
 clear hin
 refine tQ (Value.pointer (some ⟨b62, 1, none⟩)) rfl ?_
 refine TW.new (obj := .cells #[vv46, (vSlice 1 i (i + 1) (vCap vv5) vv5), vv55] 97) (fun b => .slice (some ⟨b, 0, none⟩) 3 3) rfl (by decide) (by decide) rfl (fun w => (by obtain ⟨_, _, _, e⟩ := sl51; subst e; obtain ⟨_, _, _, e⟩ := (vSlice_sl (Shp.isSl hsh66)); rw [e]; obtain ⟨_, _, _, e⟩ := sl60; subst e; exact Step.make (by kernel_rfl))) (fun b99 => ?_)
 let Q : List Chunk := [bk b99 #[vv46, (vSlice 1 i (i + 1) (vCap vv5) vv5), vv55] 97, oS v96 (([na_.keys, (n.keys.drop i).take ((i + 1) - i), nb_.keys] : List (List ByteArray)).flatten), bk b95 #[kv44, (vSlice 1 i (i + 1) (vCap kv3) kv3), kv53] 22, bk b63 #[(vB nb_.leaf), kv53, dv54, vv55] 99, bk b62 #[(vB na_.leaf), kv44, dv45, vv46] 99, oS kv53 nb_.keys, oH dv54 nb_.kids, oI vv55 nb_.vals, oS kv44 na_.keys, oH dv45 na_.kids, oI vv46 na_.vals, bk b13 #[(vB n.leaf), kv3, dv4, vv5] 99, arenaC 143 145 S ab l, oS kv3 n.keys, oH dv4 n.kids, oI vv5 n.vals, bk b1 #[(vI h.at_), (vI h.turn)] 92]
 refine TW.callX (ι := Value) (fun jx v_ => v_ = jx) (fun jx => oI jx (([na_.vals, (n.vals.drop i).take ((i + 1) - i), nb_.vals] : List (List Int)).flatten) :: Q) (fun jx => [bF tb #[(vP ab), (vI r.at_), (vI r.turn), (vB fu), (vI ln)] 94]) rfl (by decide) rfl (fun jx => (sN (sN (sN (sN (sY (sY (sY (sY (sY (sY (sY (sY (sY (sY (sY (sY (sY (sY sE))))))))))))))))))) (fun jx r h => h) (fun A w M => Rets.mono (concat_int (Value.slice (some ⟨b99, 0, none⟩) 3 3) ([na_.vals, (n.vals.drop i).take ((i + 1) - i), nb_.vals] : List (List Int)) (by simp [sumL]; omega) (by simp) (M.enterW0 ⟨((((M.wideC0 1 rfl)).and (((M.wideC0 11 rfl).imp fun _ h => oW h).and (((((M.wideC0 16 rfl).imp fun _ h => oW h)).imp fun _ h => slat_sliceF intE_len (l := i) (h := i + 1) h (by omega) (by omega) (Nat.le_trans (by omega) (SlAt.cap h).1) (Nat.le_refl _)).and ((M.wideC0 8 rfl).imp fun _ h => oW h)))).imp fun _ ⟨hb_, hq0_, hq1_, hq2_⟩ => repS_blk (SlsT 1 intE) (cs := [vv46, (vSlice 1 i (i + 1) (vCap vv5) vv5), vv55]) (xs := [na_.vals, (n.vals.drop i).take ((i + 1) - i), nb_.vals]) hb_ rfl (by decide) (repL_snoc (T := (SlsT 1 intE)) (new := [vv55]) (x := nb_.vals) (repL_snoc (T := (SlsT 1 intE)) (new := [(vSlice 1 i (i + 1) (vCap vv5) vv5)]) (x := (n.vals.drop i).take ((i + 1) - i)) (repL_snoc (T := (SlsT 1 intE)) (new := [vv46]) (x := na_.vals) repL_nil (⟨_, rfl, hq0_⟩ : slRep 1 intE _ _ _)) (⟨_, rfl, hq1_⟩ : slRep 1 intE _ _ _)) (⟨_, rfl, hq2_⟩ : slRep 1 intE _ _ _))), trivial⟩)) (fun v_ w_ ⟨v100, e_, m⟩ => ⟨v100, e_, (M.leaveW0 m).sel [1, 0, 2, 3, 4, 5, 6, 7, 8, 9, 10, 11, 12, 13, 14, 15, 16, 17, 18] rfl (by decide), fun b hb => M.k0F m b hb⟩)) (fun w => CallsF.func Try.en128 rfl) (fun v100 v hp hin => ?_)
 replace hp := hp.symm; subst hp
 obtain ⟨_, _, hin⟩ := hin
 have sl101 : IsSl v100 := SlAt.isSl (oW (Mem.chunk hin 1 rfl).inv)
 have hle102 := SlAt.le' (oW (Mem.chunk hin 1 rfl).inv)
 clear hin
 refine TW.turn _ _ (sY (sY (sY (sY (sY (sN (sY (sY (sY (sY (sY (sY (sY (sY (sY (sY (sY (sY sE)))))))))))))))))) (fun _ h => h) ?_
 refine TW.store (v := v96) (cs := [v96]) (c' := #[(vB na_.leaf), v96, dv45, vv46]) 5 rfl rfl (by decide) rfl Try.el22.sized rfl rfl (IsSl.list sl97) rfl (nL rfl) (cC (IsSl.cel sl97) cel_nil) rfl rfl (sY (sY (sY (sY (sY (sN (sY (sY (sY (sY (sY (sY (sY (sY (sY (sY (sY (sY sE)))))))))))))))))) (fun r h => h) ?_
 refine tQ (Value.pointer (some ⟨b62, 3, none⟩)) rfl ?_
 refine TW.store (v := v100) (cs := [v100]) (c' := #[(vB na_.leaf), v96, dv45, v100]) 5 rfl rfl (by decide) rfl Try.el97.sized rfl rfl (IsSl.list sl101) rfl (nL rfl) (cC (IsSl.cel sl101) cel_nil) rfl rfl (sY (sY (sY (sY (sY (sN (sY (sY (sY (sY (sY (sY (sY (sY (sY (sY (sY (sY sE)))))))))))))))))) (fun r h => h) ?_
 refine TW.done (fun w105 M => ?_)
 refine W.seq' ?_
 replace M := M.loseI 11
 replace M := M.loseI 9
 replace M := M.loseI 3
 replace M := M.loseI 1
 have hcat_keys : ([na_.keys, (n.keys.drop i).take ((i + 1) - i), nb_.keys] : List (List ByteArray)).flatten = na_.keys ++ ((n.keys.drop i).take 1 ++ nb_.keys) := by simp [Nat.add_sub_cancel_left]
 replace M := M.rechunk 1 (c' := oS v96 (na_.keys ++ ((n.keys.drop i).take 1 ++ nb_.keys))) rfl (by rw [hcat_keys])
 have hcl_keys : (na_.keys ++ ((n.keys.drop i).take 1 ++ nb_.keys)).length = na_.keys.length + (1 + nb_.keys.length) := by simp; try omega
 have hcat_vals : ([na_.vals, (n.vals.drop i).take ((i + 1) - i), nb_.vals] : List (List Int)).flatten = na_.vals ++ ((n.vals.drop i).take 1 ++ nb_.vals) := by simp [Nat.add_sub_cancel_left]
 replace M := M.rechunk 0 (c' := oI v100 (na_.vals ++ ((n.vals.drop i).take 1 ++ nb_.vals))) rfl (by rw [hcat_vals])
 have hcl_vals : (na_.vals ++ ((n.vals.drop i).take 1 ++ nb_.vals)).length = na_.vals.length + (1 + nb_.vals.length) := by simp; try omega
 refine W.region rfl (wP (Value.pointer (some ⟨b62, 2, none⟩)) (wS dv45 rfl (Step.load1 Try.sc96 rfl ((M.cell 3 rfl 2).trans rfl)) (wP (Value.pointer (some ⟨b63, 2, none⟩)) (wS dv54 rfl (Step.load1 Try.sc96 rfl ((M.cell 2 rfl 2).trans rfl)) ?_))))
 refine WL.new (obj := .cells #[dv45, dv54] 96) (fun b => .slice (some ⟨b, 0, none⟩) 2 2) M rfl (fun w => (by obtain ⟨_, _, _, e⟩ := sl49; subst e; obtain ⟨_, _, _, e⟩ := sl58; subst e; exact Step.make (by kernel_rfl))) (fun b106 w107 hb106 M => ?_)
 refine WL.callX rfl (concat_hdl (Value.slice (some ⟨b106, 0, none⟩) 2 2) ([na_.kids, nb_.kids] : List (List Handle)) (by simp [sumL]; omega) (by simp) (M.enterW0 ⟨((((M.wideC0 0 rfl)).and (((M.wideC0 8 rfl).imp fun _ h => oW h).and ((M.wideC0 6 rfl).imp fun _ h => oW h))).imp fun _ ⟨hb_, hq0_, hq1_⟩ => repS_blk (SlsT 2 handleE) (cs := [dv45, dv54]) (xs := [na_.kids, nb_.kids]) hb_ rfl (by decide) (repL_snoc (T := (SlsT 2 handleE)) (new := [dv54]) (x := nb_.kids) (repL_snoc (T := (SlsT 2 handleE)) (new := [dv45]) (x := na_.kids) repL_nil (⟨_, rfl, hq0_⟩ : slRep 2 handleE _ _ _)) (⟨_, rfl, hq1_⟩ : slRep 2 handleE _ _ _))), trivial⟩)) (CallsF.func Try.en129 rfl) ?_
 rintro v108 w109 ⟨_, rfl, m⟩
 replace M := M.leaveW0 m
 clear m
 have sl110 : IsSl v108 := SlAt.isSl (oW (Mem.chunk M 0 rfl).inv)
 have hle111 := SlAt.le' (oW (Mem.chunk M 0 rfl).inv)
 refine wP (Value.pointer (some ⟨b62, 2, none⟩)) ?_
 refine WL.store (v := v108) (cs := [v108]) (c' := #[(vB na_.leaf), v96, v108, v100]) M 5 rfl rfl Try.el96.sized rfl rfl (IsSl.list sl110) rfl (nL rfl) (cC (IsSl.cel sl110) cel_nil) rfl rfl (fun w112 M => ?_)
 refine WL.nil (W.seq' ?_)
 replace M := M.loseI 9
 replace M := M.loseI 8
 replace M := M.loseI 7
 replace M := M.loseI 6
 replace M := M.loseI 4
 replace M := M.loseI 1
 have hcat_kids : ([na_.kids, nb_.kids] : List (List Handle)).flatten = na_.kids ++ nb_.kids := by simp [Nat.add_sub_cancel_left]
 replace M := M.rechunk 0 (c' := oH v108 (na_.kids ++ nb_.kids)) rfl (by rw [hcat_kids])
 have hcl_kids : (na_.kids ++ nb_.kids).length = na_.kids.length + nb_.kids.length := by simp; try omega
 refine W.drawn M [0, 1, 2, 3, 4, 5, 6, 7] [7] [] _ _ (sY (sY (sY (sY (sY (sN (sY (sY (sY (sY sE)))))))))) (fun _ h => h) Try.mixed (by kernel_rfl) ?_
 refine tM (vP tb) rfl (tQ (Value.pointer (some ⟨b13, 2, none⟩)) rfl (tR dv4 rfl (fun A w M => (Step.load1 Try.sc96 rfl ((M.cell 5 rfl 2).trans rfl))) (tM (vI ↑i) rfl (tP (vQ dv4 i 2) rfl (fun w => (sX i Try.un96 Try.el92 rfl rfl hb16)) (tR (Value.agg #[(vI x18.at_), (vI x18.turn)]) rfl (fun A w M => (Step.loadEN (k := 0) (cs' := [(vI x18.at_), (vI x18.turn)]) Try.ag92 (flat_ec (oW (M.chunk 7 rfl).inv) hx18 handleE_len) (by decide) rfl rfl rfl)) (tR (Value.agg #[(vB na_.leaf), v96, v108, v100]) rfl (fun A w M => (Step.loadN Try.ag99 rfl (M.blk 4 rfl) (nL rfl) rfl)) ?_))))))
 let Q : List Chunk := [oH v108 (na_.kids ++ nb_.kids), oI v100 (na_.vals ++ ((n.vals.drop i).take 1 ++ nb_.vals)), oS v96 (na_.keys ++ ((n.keys.drop i).take 1 ++ nb_.keys)), bk b62 #[(vB na_.leaf), v96, v108, v100] 99, bk b13 #[(vB n.leaf), kv3, dv4, vv5] 99, oS kv3 n.keys, oH dv4 n.kids, oI vv5 n.vals, bk b1 #[(vI h.at_), (vI h.turn)] 92]
 refine TW.callX (ι := (Nat → Prop)) (fun jx v_ => v_ = undef) (fun jx => arenaC 143 145 jx ab ((rput l x18 (⟨na_.leaf, na_.keys ++ ((n.keys.drop i).take 1 ++ nb_.keys), na_.kids ++ nb_.kids, na_.vals ++ ((n.vals.drop i).take 1 ++ nb_.vals)⟩ : Nd)).1) :: Q) (fun jx => [bF tb #[(vP ab), (vI r.at_), (vI r.turn), (vB fu), (vI ln)] 94]) rfl (by decide) rfl (fun jx => (sN (sY (sY (sY (sY (sY (sY (sY (sY (sY sE))))))))))) (fun jx r h => h) (fun A w M => have fq := M.frm [arenaC 143 145 S ab l] (fl A :: Q) [6, 0, 1, 2, 3, 4, 5, 7, 8, 9, 10] rfl; Rets.mono (tr_put tb ab r fu ln l S x18 v96 v108 v100 (⟨na_.leaf, na_.keys ++ ((n.keys.drop i).take 1 ++ nb_.keys), na_.kids ++ nb_.kids, na_.vals ++ ((n.vals.drop i).take 1 ++ nb_.vals)⟩ : Nd) (by assumption) (by simp [insL] <;> omega) (by simp [insL] <;> omega) (by simp [insL] <;> omega) (M.eF fq ⟨(M.rF fq 0 rfl), ((M.cF fq 3 rfl).imp fun _ h => oW h), ((M.cF fq 1 rfl).imp fun _ h => oW h), ((M.cF fq 2 rfl).imp fun _ h => oW h), trivial⟩)) (fun v_ w_ ⟨S115, e_, m⟩ => ⟨S115, e_, (M.lF fq m).sel [1, 0, 2, 3, 4, 5, 6, 7, 8, 9, 10] rfl (by decide), fun b hb => M.kF fq m b hb⟩)) (fun w => CallsF.func Try.en84 rfl) (fun S115 v hp hin => ?_)
 replace hp := hp.symm; subst hp
 obtain ⟨_, _, hin⟩ := hin
 clear hin
 refine TW.done (fun w116 M => ?_)
 refine W.seq' ?_
 replace M := M.loseI 4
 replace M := M.loseI 3
 replace M := M.loseI 2
 replace M := M.loseI 1
 obtain ⟨l1_, hl1_⟩ : ∃ q, ((rput l x18 (⟨na_.leaf, na_.keys ++ ((n.keys.drop i).take 1 ++ nb_.keys), na_.kids ++ nb_.kids, na_.vals ++ ((n.vals.drop i).take 1 ++ nb_.vals)⟩ : Nd)).1) = q := ⟨_, rfl⟩
 have hAl1_ : SmallA l1_ := by rw [← hl1_]; first | exact SmallA.put (by assumption) (by first | omega | (simp [insL] <;> omega)) (by first | omega | (simp [insL] <;> omega)) (by first | omega | (simp [insL] <;> omega)) | exact SmallA.free (by assumption)
 replace M := M.rechunk 0 (c' := arenaC 143 145 S115 ab l1_) rfl (by rw [hl1_])
 refine W.drawn M [0, 1, 2, 3, 4, 5, 6, 7, 8, 9, 10, 11] [11] [10] _ _ (sN (sY (sY (sY (sY (sY sE)))))) (fun _ h => h) Try.mixed (by kernel_rfl) ?_
 refine tM (vP tb) rfl (tQ (vP tb) rfl (tQ (vP tb) rfl (tR (vP ab) rfl (fun A w M => (Step.load1 Try.sc90 rfl ((cell_blk (M.rep 0 rfl) 0).trans rfl))) (tQ (Value.pointer (some ⟨b13, 2, none⟩)) rfl (tR dv4 rfl (fun A w M => (Step.load1 Try.sc96 rfl ((M.cell 1 rfl 2).trans rfl))) (tM (vI ↑i) rfl (tP (vI (↑(i + 1))) rfl (fun w => (Step.cast (congrArg (Value.int .i64) (show (↑i + 1 : Int) = ↑(i + 1) by omega)) (Step.add rfl rfl (wrap_i64 (by omega))))) (tP (vQ dv4 (i + 1) 2) rfl (fun w => (sX (i + 1) Try.un96 Try.el92 rfl rfl hb16)) (tR (Value.agg #[(vI x22.at_), (vI x22.turn)]) rfl (fun A w M => (Step.loadEN (k := 0) (cs' := [(vI x22.at_), (vI x22.turn)]) Try.ag92 (flat_ec (oW (M.chunk 3 rfl).inv) hx22 handleE_len) (by decide) rfl rfl rfl)) ?_)))))))))
 refine TW.new (obj := .cells #[(vI x22.at_), (vI x22.turn)] 92) (fun b => .slice (some ⟨b, 0, none⟩) 1 1) rfl (by decide) (by decide) rfl (fun w => Step.make (by kernel_rfl)) (fun b123 => ?_)
 let Q : List Chunk := [bk b123 #[(vI x22.at_), (vI x22.turn)] 92, bk b13 #[(vB n.leaf), kv3, dv4, vv5] 99, oS kv3 n.keys, oH dv4 n.kids, oI vv5 n.vals, bk b1 #[(vI h.at_), (vI h.turn)] 92]
 refine TW.callX (ι := (Nat → Prop)) (fun jx v_ => v_ = (vI ((rfree l1_ ([x22] : List Handle)).2))) (fun jx => arenaC 143 145 jx ab ((rfree l1_ ([x22] : List Handle)).1) :: Q) (fun jx => [bF tb #[(vP ab), (vI r.at_), (vI r.turn), (vB fu), (vI ln)] 94]) rfl (by decide) rfl (fun jx => (sN (sN (sY (sY (sY (sY (sY sE)))))))) (fun jx r h => h) (fun A w M => have fq := M.frm [arenaC 143 145 S115 ab l1_] (fl A :: Q) [2, 0, 1, 3, 4, 5, 6, 7] rfl; Rets.mono (ar_free ab l1_ S115 (Value.slice (some ⟨b123, 0, none⟩) 1 1) ([x22] : List Handle) (by assumption) (M.eF fq ⟨((M.cF fq 1 rfl).imp fun _ h => SlAt.of_blk (n := 1) (size := 2) h rfl (by decide)), trivial⟩)) (fun v_ w_ ⟨S124, e_, m⟩ => ⟨S124, e_, (M.lF fq m).sel [1, 0, 2, 3, 4, 5, 6, 7] rfl (by decide), fun b hb => M.kF fq m b hb⟩)) (fun w => CallsF.func Try.en50 rfl) (fun S124 v hp hin => ?_)
 replace hp := hp.symm; subst hp
 obtain ⟨_, _, hin⟩ := hin
 clear hin
 refine TW.done (fun w125 M => ?_)
 refine W.seq' ?_
 replace M := M.loseI 1
 obtain ⟨l2_, hl2_⟩ : ∃ q, ((rfree l1_ ([x22] : List Handle)).1) = q := ⟨_, rfl⟩
 have hAl2_ : SmallA l2_ := by rw [← hl2_]; first | exact SmallA.put (by assumption) (by first | omega | (simp [insL] <;> omega)) (by first | omega | (simp [insL] <;> omega)) (by first | omega | (simp [insL] <;> omega)) | exact SmallA.free (by assumption)
 replace M := M.rechunk 0 (c' := arenaC 143 145 S124 ab l2_) rfl (by rw [hl2_])
 refine W.drawn2 M [0, 1, 2, 3, 4, 5, 6, 7, 8, 9, 10, 11, 12, 13, 14, 15, 16, 17, 18, 19] [20, 21, 22, 23, 24] [5, 11, 18, 20, 22, 24] [] _ _ (sY (sY (sN (sN (sN (sY sE)))))) (fun _ h => h) Try.mixed (by kernel_rfl) ?_
 refine tQ (Value.pointer (some ⟨b13, 1, none⟩)) rfl (tR kv3 rfl (fun A w M => (Step.load1 Try.sc22 rfl ((M.cell 2 rfl 1).trans rfl))) (tM (vI ↑i) rfl (tM (vI ↑i) rfl (tP (vI (↑(i + 1))) rfl (fun w => (Step.cast (congrArg (Value.int .i64) (show (↑i + 1 : Int) = ↑(i + 1) by omega)) (Step.add rfl rfl (wrap_i64 (by omega))))) ?_))))
 let Q : List Chunk := [arenaC 143 145 S124 ab l2_, bk b13 #[(vB n.leaf), kv3, dv4, vv5] 99, oH dv4 n.kids, oI vv5 n.vals, bk b1 #[(vI h.at_), (vI h.turn)] 92]
 refine TW.callX (ι := Value) (fun jx v_ => v_ = jx) (fun jx => oS jx (n.keys.take (Int.toNat ↑i) ++ n.keys.drop (Int.toNat (↑(i + 1)))) :: Q) (fun jx => [bF tb #[(vP ab), (vI r.at_), (vI r.turn), (vB fu), (vI ln)] 94]) rfl (by decide) rfl (fun jx => (sN (sY (sY (sN (sN (sY sE))))))) (fun jx r h => h) (fun A w M => have fq := M.frm [oS kv3 n.keys] (fl A :: Q) [3, 0, 1, 2, 4, 5, 6] rfl; Rets.mono (delete_str kv3 n.keys ↑i (↑(i + 1)) (by omega) (M.eF fq trivial)) (fun v_ w_ ⟨v144, e_, m⟩ => ⟨v144, e_, (M.lF fq m).sel [1, 0, 2, 3, 4, 5, 6] rfl (by decide), fun b hb => M.kF fq m b hb⟩)) (fun w => CallsF.func Try.en89 rfl) (fun v144 v hp hin => ?_)
 replace hp := hp.symm; subst hp
 obtain ⟨_, _, hin⟩ := hin
 have sl145 : IsSl v144 := SlAt.isSl (oW (Mem.chunk hin 1 rfl).inv)
 have hle146 := SlAt.le' (oW (Mem.chunk hin 1 rfl).inv)
 clear hin
 refine tQ (Value.pointer (some ⟨b13, 3, none⟩)) rfl (tR vv5 rfl (fun A w M => (Step.load1 Try.sc97 rfl ((M.cell 2 rfl 3).trans rfl))) (tM (vI ↑i) rfl (tM (vI ↑i) rfl (tP (vI (↑(i + 1))) rfl (fun w => (Step.cast (congrArg (Value.int .i64) (show (↑i + 1 : Int) = ↑(i + 1) by omega)) (Step.add rfl rfl (wrap_i64 (by omega))))) ?_))))
 let Q : List Chunk := [oS v144 (n.keys.take (Int.toNat ↑i) ++ n.keys.drop (Int.toNat (↑(i + 1)))), arenaC 143 145 S124 ab l2_, bk b13 #[(vB n.leaf), kv3, dv4, vv5] 99, oH dv4 n.kids, bk b1 #[(vI h.at_), (vI h.turn)] 92]
 refine TW.callX (ι := Value) (fun jx v_ => v_ = jx) (fun jx => oI jx (n.vals.take (Int.toNat ↑i) ++ n.vals.drop (Int.toNat (↑(i + 1)))) :: Q) (fun jx => [bF tb #[(vP ab), (vI r.at_), (vI r.turn), (vB fu), (vI ln)] 94]) rfl (by decide) rfl (fun jx => (sN (sN (sY (sY (sN (sY sE))))))) (fun jx r h => h) (fun A w M => have fq := M.frm [oI vv5 n.vals] (fl A :: Q) [5, 0, 1, 2, 3, 4, 6] rfl; Rets.mono (delete_int vv5 n.vals ↑i (↑(i + 1)) (by omega) (M.eF fq trivial)) (fun v_ w_ ⟨v147, e_, m⟩ => ⟨v147, e_, (M.lF fq m).sel [1, 0, 2, 3, 4, 5, 6] rfl (by decide), fun b hb => M.kF fq m b hb⟩)) (fun w => CallsF.func Try.en90 rfl) (fun v147 v hp hin => ?_)
 replace hp := hp.symm; subst hp
 obtain ⟨_, _, hin⟩ := hin
 have sl148 : IsSl v147 := SlAt.isSl (oW (Mem.chunk hin 1 rfl).inv)
 have hle149 := SlAt.le' (oW (Mem.chunk hin 1 rfl).inv)
 clear hin
 refine tQ (Value.pointer (some ⟨b13, 2, none⟩)) rfl (tR dv4 rfl (fun A w M => (Step.load1 Try.sc96 rfl ((M.cell 2 rfl 2).trans rfl))) (tM (vI ↑i) rfl (tP (vI (↑(i + 1))) rfl (fun w => (Step.cast (congrArg (Value.int .i64) (show (↑i + 1 : Int) = ↑(i + 1) by omega)) (Step.add rfl rfl (wrap_i64 (by omega))))) (tM (vI ↑i) rfl (tP (vI (↑(i + 2))) rfl (fun w => (Step.cast (congrArg (Value.int .i64) (show (↑i + 2 : Int) = ↑(i + 2) by omega)) (Step.add rfl rfl (wrap_i64 (by omega))))) ?_)))))
 let Q : List Chunk := [oI v147 (n.vals.take (Int.toNat ↑i) ++ n.vals.drop (Int.toNat (↑(i + 1)))), oS v144 (n.keys.take (Int.toNat ↑i) ++ n.keys.drop (Int.toNat (↑(i + 1)))), arenaC 143 145 S124 ab l2_, bk b13 #[(vB n.leaf), kv3, dv4, vv5] 99, bk b1 #[(vI h.at_), (vI h.turn)] 92]
 refine TW.callX (ι := Value) (fun jx v_ => v_ = jx) (fun jx => oH jx (n.kids.take (Int.toNat (↑(i + 1))) ++ n.kids.drop (Int.toNat (↑(i + 2)))) :: Q) (fun jx => [bF tb #[(vP ab), (vI r.at_), (vI r.turn), (vB fu), (vI ln)] 94]) rfl (by decide) rfl (fun jx => (sN (sN (sN (sY (sY (sY sE))))))) (fun jx r h => h) (fun A w M => have fq := M.frm [oH dv4 n.kids] (fl A :: Q) [5, 0, 1, 2, 3, 4, 6] rfl; Rets.mono (delete_hdl dv4 n.kids (↑(i + 1)) (↑(i + 2)) (by omega) (M.eF fq trivial)) (fun v_ w_ ⟨v150, e_, m⟩ => ⟨v150, e_, (M.lF fq m).sel [1, 0, 2, 3, 4, 5, 6] rfl (by decide), fun b hb => M.kF fq m b hb⟩)) (fun w => CallsF.func Try.en130 rfl) (fun v150 v hp hin => ?_)
 replace hp := hp.symm; subst hp
 obtain ⟨_, _, hin⟩ := hin
 have sl151 : IsSl v150 := SlAt.isSl (oW (Mem.chunk hin 1 rfl).inv)
 have hle152 := SlAt.le' (oW (Mem.chunk hin 1 rfl).inv)
 clear hin
 refine tQ (Value.pointer (some ⟨b13, 1, none⟩)) rfl ?_
 refine TW.turn _ _ (sY (sY (sY (sY (sN (sY sE)))))) (fun _ h => h) ?_
 refine TW.store (v := v144) (cs := [v144]) (c' := #[(vB n.leaf), v144, dv4, vv5]) 4 rfl rfl (by decide) rfl Try.el22.sized rfl rfl (IsSl.list sl145) rfl (nL rfl) (cC (IsSl.cel sl145) cel_nil) rfl rfl (sY (sY (sY (sY (sN (sY sE)))))) (fun r h => h) ?_
 refine tQ (Value.pointer (some ⟨b13, 3, none⟩)) rfl ?_
 refine TW.store (v := v147) (cs := [v147]) (c' := #[(vB n.leaf), v144, dv4, v147]) 4 rfl rfl (by decide) rfl Try.el97.sized rfl rfl (IsSl.list sl148) rfl (nL rfl) (cC (IsSl.cel sl148) cel_nil) rfl rfl (sY (sY (sY (sY (sN (sY sE)))))) (fun r h => h) ?_
 refine tQ (Value.pointer (some ⟨b13, 2, none⟩)) rfl ?_
 refine TW.store (v := v150) (cs := [v150]) (c' := #[(vB n.leaf), v144, v150, v147]) 4 rfl rfl (by decide) rfl Try.el96.sized rfl rfl (IsSl.list sl151) rfl (nL rfl) (cC (IsSl.cel sl151) cel_nil) rfl rfl (sY (sY (sY (sY (sN (sY sE)))))) (fun r h => h) ?_
 refine TW.done (fun w156 M => ?_)
 refine W.region rfl (wM (vP tb) (wS (Value.agg #[(vI h.at_), (vI h.turn)]) rfl (Step.loadN Try.ag92 rfl (M.blk 5 rfl) (nL rfl) rfl) (wS (Value.agg #[(vB n.leaf), v144, v150, v147]) rfl (Step.loadN Try.ag99 rfl (M.blk 4 rfl) (nL rfl) rfl) ?_)))
 have fq := M.frm [arenaC 143 145 S124 ab l2_] [oH v150 (n.kids.take (Int.toNat (↑(i + 1))) ++ n.kids.drop (Int.toNat (↑(i + 2)))), oI v147 (n.vals.take (Int.toNat ↑i) ++ n.vals.drop (Int.toNat (↑(i + 1)))), oS v144 (n.keys.take (Int.toNat ↑i) ++ n.keys.drop (Int.toNat (↑(i + 1)))), bk b13 #[(vB n.leaf), v144, v150, v147] 99, bk b1 #[(vI h.at_), (vI h.turn)] 92] [3, 0, 1, 2, 4, 5] rfl
 refine WL.callX rfl (tr_put tb ab r fu ln l2_ S124 h v144 v150 v147 (⟨n.leaf, n.keys.take (Int.toNat ↑i) ++ n.keys.drop (Int.toNat (↑(i + 1))), n.kids.take (Int.toNat (↑(i + 1))) ++ n.kids.drop (Int.toNat (↑(i + 2))), n.vals.take (Int.toNat ↑i) ++ n.vals.drop (Int.toNat (↑(i + 1)))⟩ : Nd) (by assumption) (by simp [insL] <;> omega) (by simp [insL] <;> omega) (by simp [insL] <;> omega) (M.eF fq ⟨(M.rF fq 0 rfl), ((M.cF fq 2 rfl).imp fun _ h => oW h), ((M.cF fq 0 rfl).imp fun _ h => oW h), ((M.cF fq 1 rfl).imp fun _ h => oW h), trivial⟩)) (CallsF.func Try.en84 rfl) ?_
 rintro _ w158 ⟨S157, rfl, m⟩
 replace M := M.lF fq m
 clear m
 refine WL.nil ?_
 refine ⟨.inr rfl, undef, ?_, ?_⟩
 · exact ⟨rfl, Res.none⟩
 have e159 : (joinF l h i) = (rput l2_ h (⟨n.leaf, n.keys.take (Int.toNat ↑i) ++ n.keys.drop (Int.toNat (↑(i + 1))), n.kids.take (Int.toNat (↑(i + 1))) ++ n.kids.drop (Int.toNat (↑(i + 2))), n.vals.take (Int.toNat ↑i) ++ n.vals.drop (Int.toNat (↑(i + 1)))⟩ : Nd)).1 := by
  rw [joinF_eq hn hgd1_ hgd2_ hna_ hnb_]
  subst hl2_
  subst hl1_
  try simp only [drop_rest]
  have h2i_ : ((i : Int) + 2).toNat = i + 2 := by omega
  simp [List.eraseIdx_eq_take_drop_succ, h2i_, hx18, hx22]
 replace M := M.rechunk 0 (c' := arenaC 143 145 S157 ab (joinF l h i)) rfl (congrArg (fun z => arenaC 143 145 S157 ab z) e159.symm)
 refine ⟨S157, ?_, M.close [0] rfl (by decide) trivial⟩
 rfl
end Go.Proofs
set_option maxRecDepth 100000
namespace Go.Proofs
open Go Tp
theorem Try.en118 : Enters Try.prog 118 := fun _ _ => by kernel_rfl
theorem Try.en119 : Enters Try.prog 119 := fun _ _ => by kernel_rfl
theorem Try.en120 : Enters Try.prog 120 := fun _ _ => by kernel_rfl
theorem Try.sc26 : Scal Try.prog 26 := fun _ => by kernel_rfl
theorem tr_rich {G X : Nat → Prop} {w : World} (j : Int) (nb : Nat) (kv : Value) (dv : Value) (vv : Value) (n : Nd) (qb : Nat) (tb ab : Nat) (r : Handle) (fu : Bool) (ln : Int) (l : List RPlace) (S : Nat → Prop)  (hA : SmallA l) (M : Mem G X w [arenaC 143 145 S ab l] [bF nb #[(vB n.leaf), kv, dv, vv] 99, fS kv n.keys, fH dv n.kids, fI vv n.vals, bF qb #[(vP tb)] 26, bF tb #[(vP ab), (vI r.at_), (vI r.turn), (vB fu), (vI ln)] 94] w) : Rets Try.prog 118 #[(vI j), (vP nb), (vP qb)] w fun r w' => r = (vB (richF l n j)) ∧ Mem G X w [arenaC 143 145 S ab l] [] w' := by
 refine Rets.enter 26 _ Try.func118 rfl Try.ntmps118 Try.results118 (by simp) ?_
 have hle1 := SlAt.le' (M.rep 1 rfl)
 have hle2 := SlAt.le' (M.rep 2 rfl)
 have hle3 := SlAt.le' (M.rep 3 rfl)
 have sl4 : IsSl kv := SlAt.isSl (Mem.rep M 1 rfl)
 have sl5 : IsSl dv := SlAt.isSl (Mem.rep M 2 rfl)
 have sl6 : IsSl vv := SlAt.isSl (Mem.rep M 3 rfl)
 refine wR (wA (vB false) (WL.nil (W.seq' ?_)))
 rcases Bool.eq_false_or_eq_true (decide ((j : Int) ≥ (0 : Int))) with h7 | h7
 ·
  have h7p := dT h7
  rcases Bool.eq_false_or_eq_true (decide ((j : Int) < (↑n.kids.length : Int))) with h8 | h8
  ·
   have h8p := dT h8
   obtain ⟨cap10, hb9⟩ := SlAt.base (M.rep 2 rfl) (by omega)
   obtain ⟨x11, hx11⟩ := elem_of_lt (xs := n.kids) (i := j.toNat) (by omega)
   have hgd1_ : n.kids.getD j.toNat hdZero = x11 := by rw [List.getD_eq_getElem?_getD, hx11]; rfl
   refine W.drawn M [0, 1, 2, 3, 4, 5, 6, 7, 8, 9, 10, 11, 12, 13, 14, 15, 16, 17, 18, 19, 20, 21] [16] [] _ _ (sY sE) (fun _ h => h) Try.mixed (by kernel_rfl) ?_
   refine tM (vI j) rfl (tP (vB true) rfl (fun w => (Step.cast (congrArg Value.bool h7) sP)) (tM (vB true) rfl (tM (vI j) rfl (tQ (Value.pointer (some ⟨nb, 2, none⟩)) rfl (tR dv rfl (fun A w M => (Step.load1 Try.sc96 rfl ((cell_blk (M.rep 0 rfl) 2).trans rfl))) (tR (vI ↑n.kids.length) rfl (fun A w M => (Step.lenSl Try.un96 rfl (M.rep 2 rfl))) (tP (vB true) rfl (fun w => (Step.cast (congrArg Value.bool h8) sP)) (tP (vB true) rfl (fun w => (Step.pick (t := true) rfl rfl)) (tM (vB true) rfl (tR (vP tb) rfl (fun A w M => (Step.load1 Try.sc26 rfl ((cell_blk (M.rep 4 rfl) 0).trans rfl))) (tQ (Value.pointer (some ⟨nb, 2, none⟩)) rfl (tR dv rfl (fun A w M => (Step.load1 Try.sc96 rfl ((cell_blk (M.rep 0 rfl) 2).trans rfl))) (tM (vI j) rfl (tP (vQ dv j.toNat 2) rfl (fun w => (sX j.toNat Try.un96 Try.el92 rfl rfl hb9)) (tR (Value.agg #[(vI x11.at_), (vI x11.turn)]) rfl (fun A w M => (Step.loadEN (k := 0) (cs' := [(vI x11.at_), (vI x11.turn)]) Try.ag92 (flat_ec (M.rep 2 rfl) hx11 handleE_len) (by decide) rfl rfl rfl)) ?_)))))))))))))))
   obtain ⟨na_, hna_⟩ : ∃ n, (rget l x11).1 = n := ⟨_, rfl⟩
   refine TW.callX (ι := Value × Value × Value) (fun jx v_ => v_ = (Value.agg #[(vB na_.leaf), jx.1, jx.2.1, jx.2.2])) (fun jx => [oS jx.1 na_.keys, oH jx.2.1 na_.kids, oI jx.2.2 na_.vals, arenaC 143 145 S ab l]) (fun jx => [bF nb #[(vB n.leaf), kv, dv, vv] 99, fS kv n.keys, fH dv n.kids, fI vv n.vals, bF qb #[(vP tb)] 26, bF tb #[(vP ab), (vI r.at_), (vI r.turn), (vB fu), (vI ln)] 94]) rfl (by decide) rfl (fun jx => (sN (sN (sN (sY sE))))) (fun jx r h => h) (fun A w M => have fq := M.frm [arenaC 143 145 S ab l] [fl A] [1, 0] rfl; Rets.mono (tr_node tb ab r fu ln l S x11 (by assumption) na_ hna_ (M.eF fq ⟨(M.rF fq 5 rfl), trivial⟩)) (fun v_ w_ ⟨kv18, dv19, vv20, e_, m⟩ => ⟨(kv18, dv19, vv20), e_, (M.lF fq m).sel [4, 1, 2, 3, 0] rfl (by decide), fun b hb => M.kF fq m b hb⟩)) (fun w => CallsF.func Try.en49 rfl) (fun jx v hp hin => ?_)
   obtain ⟨kv18, dv19, vv20⟩ := jx
   replace hp := hp.symm; subst hp
   obtain ⟨_, _, hin⟩ := hin
   have sl21 : IsSl kv18 := SlAt.isSl (oW (Mem.chunk hin 1 rfl).inv)
   have hle22 := SlAt.le' (oW (Mem.chunk hin 1 rfl).inv)
   have hsh23 := (oW (Mem.chunk hin 1 rfl).inv).shp
   have sl24 : IsSl dv19 := SlAt.isSl (oW (Mem.chunk hin 2 rfl).inv)
   have hle25 := SlAt.le' (oW (Mem.chunk hin 2 rfl).inv)
   have hsh26 := (oW (Mem.chunk hin 2 rfl).inv).shp
   have sl27 : IsSl vv20 := SlAt.isSl (oW (Mem.chunk hin 3 rfl).inv)
   have hle28 := SlAt.le' (oW (Mem.chunk hin 3 rfl).inv)
   have hsh29 := (oW (Mem.chunk hin 3 rfl).inv).shp
   clear hin
   refine tQ kv18 rfl (tP (vI ↑na_.keys.length) rfl (fun w => (Step.lenP Try.un22 rfl hsh23)) (tQ (vB (decide ((↑na_.keys.length : Int) > (2 : Int)))) rfl (tP (vB (decide ((↑na_.keys.length : Int) > (2 : Int)))) rfl (fun w => (Step.pick (t := true) rfl rfl)) (tP (vB (decide ((↑na_.keys.length : Int) > (2 : Int)))) rfl (fun w => (Step.assign rfl)) ?_))))
   refine TW.done (fun w30 M => ?_)
   refine W.ret ?_
   refine ⟨.inl rfl, (vB (decide ((↑na_.keys.length : Int) > (2 : Int)))), ?_, ?_⟩
   · exact ⟨rfl, (Res.r1 (show RV _ _ _ (.tmp 4) (vB (decide ((↑na_.keys.length : Int) > (2 : Int)))) from by exact rfl))⟩
   refine ⟨?_, M.close [3] rfl (by decide) trivial⟩
   refine congrArg Value.bool ?_
   unfold richF; rw [hgd1_, hna_]; simp [h7p, h8p, hx11]; try omega
  ·
   have h8p := dF h8
   refine W.drawn M [0, 1, 2, 3, 4, 5, 6, 7, 8, 9, 10, 11, 12, 13, 14, 15, 16, 17, 18, 19, 20, 21] [16] [] _ _ (sY sE) (fun _ h => h) Try.mixed (by kernel_rfl) ?_
   refine tM (vI j) rfl (tP (vB true) rfl (fun w => (Step.cast (congrArg Value.bool h7) sP)) (tM (vB true) rfl (tM (vI j) rfl (tQ (Value.pointer (some ⟨nb, 2, none⟩)) rfl (tR dv rfl (fun A w M => (Step.load1 Try.sc96 rfl ((cell_blk (M.rep 0 rfl) 2).trans rfl))) (tR (vI ↑n.kids.length) rfl (fun A w M => (Step.lenSl Try.un96 rfl (M.rep 2 rfl))) (tP (vB false) rfl (fun w => (Step.cast (congrArg Value.bool h8) sP)) (tP (vB false) rfl (fun w => (Step.pick (t := true) rfl rfl)) (tM (vB false) rfl ?_)))))))))
   refine TW.skip rfl rfl ?_
   refine TW.skip rfl rfl ?_
   refine TW.skip rfl rfl ?_
   refine TW.skip rfl rfl ?_
   refine TW.skip rfl rfl ?_
   refine TW.skip rfl rfl ?_
   refine TW.skip rfl rfl ?_
   refine TW.skip rfl rfl ?_
   refine TW.skip rfl rfl ?_
   refine TW.skip rfl rfl ?_
   refine tP (vB false) rfl (fun w => (Step.pick (t := false) rfl rfl)) (tP (vB false) rfl (fun w => (Step.assign rfl)) ?_)
   refine TW.done (fun w31 M => ?_)
   refine W.ret ?_
   refine ⟨.inl rfl, (vB false), ?_, ?_⟩
   · exact ⟨rfl, (Res.r1 (show RV _ _ _ (.tmp 4) (vB false) from by exact rfl))⟩
   refine ⟨?_, M.close [0] rfl (by decide) trivial⟩
   refine congrArg Value.bool ?_
   unfold richF; simp [h7p, h8p]; try omega
 ·
  have h7p := dF h7
  refine W.drawn M [0, 1, 2, 3, 4, 5, 6, 7, 8, 9, 10, 11, 12, 13, 14, 15, 16, 17, 18, 19, 20, 21] [16] [] _ _ (sY sE) (fun _ h => h) Try.mixed (by kernel_rfl) ?_
  refine tM (vI j) rfl (tP (vB false) rfl (fun w => (Step.cast (congrArg Value.bool h7) sP)) (tM (vB false) rfl ?_))
  refine TW.skip rfl rfl ?_
  refine TW.skip rfl rfl ?_
  refine TW.skip rfl rfl ?_
  refine TW.skip rfl rfl ?_
  refine TW.skip rfl rfl ?_
  refine tP (vB false) rfl (fun w => (Step.pick (t := false) rfl rfl)) (tM (vB false) rfl ?_)
  refine TW.skip rfl rfl ?_
  refine TW.skip rfl rfl ?_
  refine TW.skip rfl rfl ?_
  refine TW.skip rfl rfl ?_
  refine TW.skip rfl rfl ?_
  refine TW.skip rfl rfl ?_
  refine TW.skip rfl rfl ?_
  refine TW.skip rfl rfl ?_
  refine TW.skip rfl rfl ?_
  refine TW.skip rfl rfl ?_
  refine tP (vB false) rfl (fun w => (Step.pick (t := false) rfl rfl)) (tP (vB false) rfl (fun w => (Step.assign rfl)) ?_)
  refine TW.done (fun w32 M => ?_)
  refine W.ret ?_
  refine ⟨.inl rfl, (vB false), ?_, ?_⟩
  · exact ⟨rfl, (Res.r1 (show RV _ _ _ (.tmp 4) (vB false) from by exact rfl))⟩
  refine ⟨?_, M.close [0] rfl (by decide) trivial⟩
  refine congrArg Value.bool ?_
  unfold richF; simp [h7p]; try omega
set_option maxHeartbeats 1000000 in
theorem tr_mend {G X : Nat → Prop} {w : World} (tb ab : Nat) (r : Handle) (fu : Bool) (ln : Int) (l : List RPlace) (S : Nat → Prop) (h : Handle) (i : Nat)  (hO : mendOk l h i) (M : Mem G X w [arenaC 143 145 S ab l] [bF tb #[(vP ab), (vI r.at_), (vI r.turn), (vB fu), (vI ln)] 94] w) : Rets Try.prog 92 #[(vP tb), (Value.agg #[(vI h.at_), (vI h.turn)]), (vI ↑i)] w fun r w' => ∃ (S' : Nat → Prop), r = undef ∧ Mem G X w [arenaC 143 145 S' ab (mendF l h i)] [] w' := by
 refine Rets.enter 53 _ Try.func92 rfl Try.ntmps92 Try.results92 (by simp) ?_
 obtain ⟨n, hn⟩ : ∃ n, (rget l h).1 = n := ⟨_, rfl⟩
 obtain ⟨hA, hty, hik_, hk2_⟩ := mendOk_n hO hn
 obtain ⟨ht1, ht2, ht3⟩ := hty
 refine wR ?_
 refine WL.box (v := (vP tb)) (c := #[(vP tb)]) M rfl rfl rfl (fun b1 w2 hb1 M => ?_)
 refine WL.box (v := (Value.agg #[(vI h.at_), (vI h.turn)])) (c := #[(vI h.at_), (vI h.turn)]) M rfl rfl rfl (fun b3 w4 hb3 M => ?_)
 refine WL.nil (wR (wS (vP tb) rfl (Step.load1 Try.sc26 rfl ((M.cell 1 rfl 0).trans rfl)) (wS (Value.agg #[(vI h.at_), (vI h.turn)]) rfl (Step.loadN Try.ag92 rfl (M.blk 0 rfl) (nL rfl) rfl) ?_)))
 have fq := M.frm [arenaC 143 145 S ab l] [bk b3 #[(vI h.at_), (vI h.turn)] 92, bk b1 #[(vP tb)] 26] [2, 0, 1] rfl
 refine WL.callX rfl (tr_node tb ab r fu ln l S h (by assumption) n hn (M.eF fq ⟨(M.rF fq 0 rfl), trivial⟩)) (CallsF.func Try.en49 rfl) ?_
 rintro _ w8 ⟨kv5, dv6, vv7, rfl, m⟩
 replace M := M.lF fq m
 clear m
 have sl9 : IsSl kv5 := SlAt.isSl (oW (Mem.chunk M 1 rfl).inv)
 have hle10 := SlAt.le' (oW (Mem.chunk M 1 rfl).inv)
 have sl11 : IsSl dv6 := SlAt.isSl (oW (Mem.chunk M 2 rfl).inv)
 have hle12 := SlAt.le' (oW (Mem.chunk M 2 rfl).inv)
 have sl13 : IsSl vv7 := SlAt.isSl (oW (Mem.chunk M 3 rfl).inv)
 have hle14 := SlAt.le' (oW (Mem.chunk M 3 rfl).inv)
 refine WL.alloc (c := #[(vB false), vZ, vZ, vZ]) M rfl Try.el99.zero rfl (fun b15 w16 hb15 M => ?_)
 refine WL.store (v := (Value.agg #[(vB n.leaf), kv5, dv6, vv7])) (cs := [(vB n.leaf), kv5, dv6, vv7]) (c' := #[(vB n.leaf), kv5, dv6, vv7]) M 0 rfl rfl Try.el99.sized rfl rfl rfl rfl (nL rfl) (cC rfl (cC (IsSl.cel sl9) (cC (IsSl.cel sl11) (cC (IsSl.cel sl13) cel_nil)))) rfl rfl (fun w17 M => ?_)
 refine WL.nil (W.seq' (W.seq' ?_))
 obtain ⟨cap19, hb18⟩ := SlAt.base (oW (M.chunk 3 rfl).inv) (by omega)
 obtain ⟨x20, hx20⟩ := elem_of_lt (xs := n.kids) (i := i) (by omega)
 have hgd1_ : n.kids.getD i hdZero = x20 := by rw [List.getD_eq_getElem?_getD, hx20]; rfl
 refine W.drawn M [0, 1, 2, 3, 4, 5, 6, 7, 8, 9] [6] [] _ _ (sY (sY (sY (sY (sY (sY (sY sE))))))) (fun _ h => h) Try.mixed (by kernel_rfl) ?_
 refine tR (vP tb) rfl (fun A w M => (Step.load1 Try.sc26 rfl ((M.cell 7 rfl 0).trans rfl))) (tQ (Value.pointer (some ⟨b15, 2, none⟩)) rfl (tR dv6 rfl (fun A w M => (Step.load1 Try.sc96 rfl ((M.cell 1 rfl 2).trans rfl))) (tM (vI ↑i) rfl (tP (vQ dv6 i 2) rfl (fun w => (sX i Try.un96 Try.el92 rfl rfl hb18)) (tR (Value.agg #[(vI x20.at_), (vI x20.turn)]) rfl (fun A w M => (Step.loadEN (k := 0) (cs' := [(vI x20.at_), (vI x20.turn)]) Try.ag92 (flat_ec (oW (M.chunk 4 rfl).inv) hx20 handleE_len) (by decide) rfl rfl rfl)) ?_)))))
 obtain ⟨na_, hna_⟩ : ∃ n, (rget l x20).1 = n := ⟨_, rfl⟩
 let Q : List Chunk := [bk b15 #[(vB n.leaf), kv5, dv6, vv7] 99, oS kv5 n.keys, oH dv6 n.kids, oI vv7 n.vals, bk b3 #[(vI h.at_), (vI h.turn)] 92, bk b1 #[(vP tb)] 26]
 refine TW.callX (ι := Value × Value × Value) (fun jx v_ => v_ = (Value.agg #[(vB na_.leaf), jx.1, jx.2.1, jx.2.2])) (fun jx => [oS jx.1 na_.keys, oH jx.2.1 na_.kids, oI jx.2.2 na_.vals, bk b15 #[(vB n.leaf), kv5, dv6, vv7] 99, arenaC 143 145 S ab l, oS kv5 n.keys, oH dv6 n.kids, oI vv7 n.vals, bk b3 #[(vI h.at_), (vI h.turn)] 92, bk b1 #[(vP tb)] 26]) (fun jx => [bF tb #[(vP ab), (vI r.at_), (vI r.turn), (vB fu), (vI ln)] 94]) rfl (by decide) rfl (fun jx => (sN (sN (sN (sY (sY (sY (sY (sY (sY (sY sE))))))))))) (fun jx r h => h) (fun A w M => have fq := M.frm [arenaC 143 145 S ab l] (fl A :: Q) [2, 0, 1, 3, 4, 5, 6, 7] rfl; Rets.mono (tr_node tb ab r fu ln l S x20 (by assumption) na_ hna_ (M.eF fq ⟨(M.rF fq 0 rfl), trivial⟩)) (fun v_ w_ ⟨kv27, dv28, vv29, e_, m⟩ => ⟨(kv27, dv28, vv29), e_, (M.lF fq m).sel [4, 1, 2, 3, 5, 0, 6, 7, 8, 9, 10] rfl (by decide), fun b hb => M.kF fq m b hb⟩)) (fun w => CallsF.func Try.en49 rfl) (fun jx v hp hin => ?_)
 obtain ⟨kv27, dv28, vv29⟩ := jx
 replace hp := hp.symm; subst hp
 obtain ⟨_, _, hin⟩ := hin
 have sl30 : IsSl kv27 := SlAt.isSl (oW (Mem.chunk hin 1 rfl).inv)
 have hle31 := SlAt.le' (oW (Mem.chunk hin 1 rfl).inv)
 have hsh32 := (oW (Mem.chunk hin 1 rfl).inv).shp
 have sl33 : IsSl dv28 := SlAt.isSl (oW (Mem.chunk hin 2 rfl).inv)
 have hle34 := SlAt.le' (oW (Mem.chunk hin 2 rfl).inv)
 have hsh35 := (oW (Mem.chunk hin 2 rfl).inv).shp
 have sl36 : IsSl vv29 := SlAt.isSl (oW (Mem.chunk hin 3 rfl).inv)
 have hle37 := SlAt.le' (oW (Mem.chunk hin 3 rfl).inv)
 have hsh38 := (oW (Mem.chunk hin 3 rfl).inv).shp
 clear hin
 refine tQ kv27 rfl (tP (vI ↑na_.keys.length) rfl (fun w => (Step.lenP Try.un22 rfl hsh32)) (tQ (vB (decide ((↑na_.keys.length : Int) ≥ (2 : Int)))) rfl ?_))
 refine TW.done (fun w39 M => ?_)
 refine W.cond (t := decide ((↑na_.keys.length : Int) ≥ (2 : Int))) rfl (fun h40 => ?_) (fun h40 => ?_)
 ·
  have h40p := dT h40
  refine W.ret ?_
  refine ⟨.inl rfl, undef, ?_, ?_⟩
  · exact ⟨rfl, Res.none⟩
  have e41 : (mendF l h i) = l := by
   rw [mend_keep hn hgd1_ hna_ (by omega)]
  replace M := M.rechunk 4 (c' := arenaC 143 145 S ab (mendF l h i)) rfl (congrArg (fun z => arenaC 143 145 S ab z) e41.symm)
  refine ⟨S, ?_, M.close [4] rfl (by decide) trivial⟩
  rfl
 ·
  have h40p := dF h40
  obtain ⟨hp1_, hp2_⟩ := mendOk_pair hO hn hgd1_ hna_ (by omega)
  refine W.skip (wR (wP (Value.func (.func 118) #[] #[(vP b15), (vP b1)]) (wA (Value.func (.func 118) #[] #[(vP b15), (vP b1)]) (WL.nil (W.block (W.seq' ?_))))))
  replace M := M.loseI 2
  replace M := M.loseI 1
  replace M := M.loseI 0
  refine W.region rfl (wM (Value.func (.func 118) #[] #[(vP b15), (vP b1)]) (wM (vI ↑i) (wS (vI ((↑i : Int) - 1)) rfl (Step.sub rfl rfl (wrap_i64 (by omega))) ?_)))
  have fq := M.frm [arenaC 143 145 S ab l] [bk b15 #[(vB n.leaf), kv5, dv6, vv7] 99, oS kv5 n.keys, oH dv6 n.kids, oI vv7 n.vals, bk b3 #[(vI h.at_), (vI h.turn)] 92, bk b1 #[(vP tb)] 26] [1, 0, 2, 3, 4, 5, 6] rfl
  refine WL.callX rfl (tr_rich ((↑i : Int) - 1) b15 kv5 dv6 vv7 n b1 tb ab r fu ln l S (by assumption) (M.eF fq ⟨(M.cF fq 0 rfl), ((M.cF fq 1 rfl).imp fun _ h => oW h), ((M.cF fq 2 rfl).imp fun _ h => oW h), ((M.cF fq 3 rfl).imp fun _ h => oW h), (M.cF fq 5 rfl), (M.rF fq 0 rfl), trivial⟩)) (CallsF.value Try.en118 rfl rfl rfl) ?_
  rintro _ w42 ⟨rfl, m⟩
  replace M := M.lF fq m
  clear m
  refine wA (vB (richF l n ((↑i : Int) - 1))) (WL.nil ?_)
  refine W.cond (t := richF l n ((↑i : Int) - 1)) rfl (fun h43 => ?_) (fun h43 => ?_)
  ·
   obtain ⟨hr1_, hr2_⟩ := rich_low h43
   have hi1_ : 0 < i := by omega
   have hO1_ := hp1_ hi1_
   refine W.region rfl (wS (vP tb) rfl (Step.load1 Try.sc26 rfl ((M.cell 6 rfl 0).trans rfl)) (wS (Value.agg #[(vI h.at_), (vI h.turn)]) rfl (Step.loadN Try.ag92 rfl (M.blk 5 rfl) (nL rfl) rfl) (wM (vI ↑i) (wS (vI (↑(i - 1))) rfl (Step.cast (congrArg (Value.int .i64) (show ((↑i : Int) - 1 : Int) = ↑(i - 1) by omega)) (Step.sub rfl rfl (wrap_i64 (by omega)))) ?_))))
   have fq := M.frm [arenaC 143 145 S ab l] [bk b15 #[(vB n.leaf), kv5, dv6, vv7] 99, oS kv5 n.keys, oH dv6 n.kids, oI vv7 n.vals, bk b3 #[(vI h.at_), (vI h.turn)] 92, bk b1 #[(vP tb)] 26] [0, 1, 2, 3, 4, 5, 6] rfl
   refine WL.callX rfl (tr_turn tb ab r fu ln l S h (i - 1) false (by assumption) (M.eF fq ⟨(M.rF fq 0 rfl), trivial⟩)) (CallsF.func Try.en119 rfl) ?_
   rintro _ w45 ⟨S44, rfl, m⟩
   replace M := M.lF fq m
   clear m
   refine WL.nil ?_
   refine ⟨.inr rfl, undef, ?_, ?_⟩
   · exact ⟨rfl, Res.none⟩
   have e46 : (mendF l h i) = (turnF l h (i - 1) false) := by
    rw [mend_go hn hgd1_ hna_ (by omega)]
    simp [hx20, h40p, h43] <;> (intro h_; exfalso; omega)
   replace M := M.rechunk 0 (c' := arenaC 143 145 S44 ab (mendF l h i)) rfl (congrArg (fun z => arenaC 143 145 S44 ab z) e46.symm)
   refine ⟨S44, ?_, M.close [0] rfl (by decide) trivial⟩
   rfl
  ·
   refine wR (wM (Value.func (.func 118) #[] #[(vP b15), (vP b1)]) (wM (vI ↑i) (wS (vI (↑i + 1)) rfl (Step.add rfl rfl (wrap_i64 (by omega))) ?_)))
   have fq := M.frm [arenaC 143 145 S ab l] [bk b15 #[(vB n.leaf), kv5, dv6, vv7] 99, oS kv5 n.keys, oH dv6 n.kids, oI vv7 n.vals, bk b3 #[(vI h.at_), (vI h.turn)] 92, bk b1 #[(vP tb)] 26] [0, 1, 2, 3, 4, 5, 6] rfl
   refine WL.callX rfl (tr_rich (↑i + 1) b15 kv5 dv6 vv7 n b1 tb ab r fu ln l S (by assumption) (M.eF fq ⟨(M.cF fq 0 rfl), ((M.cF fq 1 rfl).imp fun _ h => oW h), ((M.cF fq 2 rfl).imp fun _ h => oW h), ((M.cF fq 3 rfl).imp fun _ h => oW h), (M.cF fq 5 rfl), (M.rF fq 0 rfl), trivial⟩)) (CallsF.value Try.en118 rfl rfl rfl) ?_
   rintro _ w47 ⟨rfl, m⟩
   replace M := M.lF fq m
   clear m
   refine wA (vB (richF l n (↑i + 1))) (WL.nil ?_)
   refine W.cond (t := richF l n (↑i + 1)) rfl (fun h48 => ?_) (fun h48 => ?_)
   ·
    obtain ⟨hr1_, hr2_⟩ := rich_low h48
    have hO1_ := hp2_ (by omega)
    replace M := M.loseI 4
    replace M := M.loseI 3
    replace M := M.loseI 2
    replace M := M.loseI 1
    refine W.region rfl (wS (vP tb) rfl (Step.load1 Try.sc26 rfl ((M.cell 2 rfl 0).trans rfl)) (wS (Value.agg #[(vI h.at_), (vI h.turn)]) rfl (Step.loadN Try.ag92 rfl (M.blk 1 rfl) (nL rfl) rfl) (wM (vI ↑i) ?_)))
    have fq := M.frm [arenaC 143 145 S ab l] [bk b3 #[(vI h.at_), (vI h.turn)] 92, bk b1 #[(vP tb)] 26] [0, 1, 2] rfl
    refine WL.callX rfl (tr_turn tb ab r fu ln l S h i true (by assumption) (M.eF fq ⟨(M.rF fq 0 rfl), trivial⟩)) (CallsF.func Try.en119 rfl) ?_
    rintro _ w50 ⟨S49, rfl, m⟩
    replace M := M.lF fq m
    clear m
    refine WL.nil ?_
    refine ⟨.inr rfl, undef, ?_, ?_⟩
    · exact ⟨rfl, Res.none⟩
    have e51 : (mendF l h i) = (turnF l h i true) := by
     rw [mend_go hn hgd1_ hna_ (by omega)]
     simp [hx20, h40p, h43, h48] <;> (intro h_; exfalso; omega)
    replace M := M.rechunk 0 (c' := arenaC 143 145 S49 ab (mendF l h i)) rfl (congrArg (fun z => arenaC 143 145 S49 ab z) e51.symm)
    refine ⟨S49, ?_, M.close [0] rfl (by decide) trivial⟩
    rfl
   ·
    refine wR (wM (vI ↑i) (wP (vB (decide ((↑i : Int) > (0 : Int)))) (wA (vB (decide ((↑i : Int) > (0 : Int)))) (WL.nil ?_))))
    refine W.cond (t := decide ((↑i : Int) > (0 : Int))) rfl (fun h52 => ?_) (fun h52 => ?_)
    ·
     have h52p := dT h52
     have hi1_ : 0 < i := by omega
     have hO1_ := hp1_ hi1_
     replace M := M.loseI 4
     replace M := M.loseI 3
     replace M := M.loseI 2
     replace M := M.loseI 1
     refine W.region rfl (wS (vP tb) rfl (Step.load1 Try.sc26 rfl ((M.cell 2 rfl 0).trans rfl)) (wS (Value.agg #[(vI h.at_), (vI h.turn)]) rfl (Step.loadN Try.ag92 rfl (M.blk 1 rfl) (nL rfl) rfl) (wM (vI ↑i) (wS (vI (↑(i - 1))) rfl (Step.cast (congrArg (Value.int .i64) (show ((↑i : Int) - 1 : Int) = ↑(i - 1) by omega)) (Step.sub rfl rfl (wrap_i64 (by omega)))) ?_))))
     have fq := M.frm [arenaC 143 145 S ab l] [bk b3 #[(vI h.at_), (vI h.turn)] 92, bk b1 #[(vP tb)] 26] [0, 1, 2] rfl
     refine WL.callX rfl (tr_join tb ab r fu ln l S h (i - 1) (by assumption) (M.eF fq ⟨(M.rF fq 0 rfl), trivial⟩)) (CallsF.func Try.en120 rfl) ?_
     rintro _ w54 ⟨S53, rfl, m⟩
     replace M := M.lF fq m
     clear m
     refine WL.nil ?_
     refine ⟨.inr rfl, undef, ?_, ?_⟩
     · exact ⟨rfl, Res.none⟩
     have e55 : (mendF l h i) = (joinF l h (i - 1)) := by
      rw [mend_go hn hgd1_ hna_ (by omega)]
      simp [hx20, h40p, h43, h48, h52p] <;> (intro h_; exfalso; omega)
     replace M := M.rechunk 0 (c' := arenaC 143 145 S53 ab (mendF l h i)) rfl (congrArg (fun z => arenaC 143 145 S53 ab z) e55.symm)
     refine ⟨S53, ?_, M.close [0] rfl (by decide) trivial⟩
     rfl
    ·
     have h52p := dF h52
     have hO1_ := hp2_ (by omega)
     replace M := M.loseI 4
     replace M := M.loseI 3
     replace M := M.loseI 2
     replace M := M.loseI 1
     refine W.region rfl (wS (vP tb) rfl (Step.load1 Try.sc26 rfl ((M.cell 2 rfl 0).trans rfl)) (wS (Value.agg #[(vI h.at_), (vI h.turn)]) rfl (Step.loadN Try.ag92 rfl (M.blk 1 rfl) (nL rfl) rfl) (wM (vI ↑i) ?_)))
     have fq := M.frm [arenaC 143 145 S ab l] [bk b3 #[(vI h.at_), (vI h.turn)] 92, bk b1 #[(vP tb)] 26] [0, 1, 2] rfl
     refine WL.callX rfl (tr_join tb ab r fu ln l S h i (by assumption) (M.eF fq ⟨(M.rF fq 0 rfl), trivial⟩)) (CallsF.func Try.en120 rfl) ?_
     rintro _ w57 ⟨S56, rfl, m⟩
     replace M := M.lF fq m
     clear m
     refine WL.nil ?_
     refine ⟨.inr rfl, undef, ?_, ?_⟩
     · exact ⟨rfl, Res.none⟩
     have e58 : (mendF l h i) = (joinF l h i) := by
      rw [mend_go hn hgd1_ hna_ (by omega)]
      simp [hx20, h40p, h43, h48, h52p] <;> (intro h_; exfalso; omega)
     replace M := M.rechunk 0 (c' := arenaC 143 145 S56 ab (mendF l h i)) rfl (congrArg (fun z => arenaC 143 145 S56 ab z) e58.symm)
     refine ⟨S56, ?_, M.close [0] rfl (by decide) trivial⟩
     rfl
end Go.Proofs
set_option maxRecDepth 100000
namespace Go.Proofs
open Go Tp
theorem Try.en48 : Enters Try.prog 48 := fun _ _ => by kernel_rfl
theorem Try.en92 : Enters Try.prog 92 := fun _ _ => by kernel_rfl
set_option maxHeartbeats 1000000 in
theorem tr_remove : ∀ (d : Nat) {G X : Nat → Prop} {w : World} (tb ab : Nat) (r : Handle) (fu : Bool) (ln : Int) (l : List RPlace) (S : Nat → Prop) (h : Handle) (k : ByteArray)  (hO : remOk d l h k) (M : Mem G X w [arenaC 143 145 S ab l] [bF tb #[(vP ab), (vI r.at_), (vI r.turn), (vB fu), (vI ln)] 94] w), Rets Try.prog 48 #[(vP tb), (Value.agg #[(vI h.at_), (vI h.turn)]), (vS k)] w fun r w' => ∃ (S' : Nat → Prop), r = undef ∧ Mem G X w [arenaC 143 145 S' ab (remF d l h k)] [] w' := by
 intro d
 induction d using Nat.strongRecOn
 rename_i d ih
 intro G X w tb ab r fu ln l S h k hO M
 refine Rets.enter 83 _ Try.func48 rfl Try.ntmps48 Try.results48 (by simp) ?_
 obtain ⟨n, hn⟩ : ∃ n, (rget l h).1 = n := ⟨_, rfl⟩
 obtain ⟨hA, hty, hvl, hup⟩ := remOk_node hO hn
 obtain ⟨ht1, ht2, ht3⟩ := hty
 have hbi_ := bsI_le n.keys k
 refine wR ?_
 refine WL.box (v := (Value.agg #[(vI h.at_), (vI h.turn)])) (c := #[(vI h.at_), (vI h.turn)]) M rfl rfl rfl (fun b1 w2 hb1 M => ?_)
 refine WL.nil (wR (wM (vP tb) (wS (Value.agg #[(vI h.at_), (vI h.turn)]) rfl (Step.loadN Try.ag92 rfl (M.blk 0 rfl) (nL rfl) rfl) ?_)))
 have fq := M.frm [arenaC 143 145 S ab l] [bk b1 #[(vI h.at_), (vI h.turn)] 92] [1, 0] rfl
 refine WL.callX rfl (tr_node tb ab r fu ln l S h (by assumption) n hn (M.eF fq ⟨(M.rF fq 0 rfl), trivial⟩)) (CallsF.func Try.en49 rfl) ?_
 rintro _ w6 ⟨kv3, dv4, vv5, rfl, m⟩
 replace M := M.lF fq m
 clear m
 have sl7 : IsSl kv3 := SlAt.isSl (oW (Mem.chunk M 1 rfl).inv)
 have hle8 := SlAt.le' (oW (Mem.chunk M 1 rfl).inv)
 have sl9 : IsSl dv4 := SlAt.isSl (oW (Mem.chunk M 2 rfl).inv)
 have hle10 := SlAt.le' (oW (Mem.chunk M 2 rfl).inv)
 have sl11 : IsSl vv5 := SlAt.isSl (oW (Mem.chunk M 3 rfl).inv)
 have hle12 := SlAt.le' (oW (Mem.chunk M 3 rfl).inv)
 refine WL.alloc (c := #[(vB false), vZ, vZ, vZ]) M rfl Try.el99.zero rfl (fun b13 w14 hb13 M => ?_)
 refine WL.store (v := (Value.agg #[(vB n.leaf), kv3, dv4, vv5])) (cs := [(vB n.leaf), kv3, dv4, vv5]) (c' := #[(vB n.leaf), kv3, dv4, vv5]) M 0 rfl rfl Try.el99.sized rfl rfl rfl rfl (nL rfl) (cC rfl (cC (IsSl.cel sl7) (cC (IsSl.cel sl9) (cC (IsSl.cel sl11) cel_nil)))) rfl rfl (fun w15 M => ?_)
 refine WL.nil (wR (wP (Value.pointer (some ⟨b13, 1, none⟩)) (wS kv3 rfl (Step.load1 Try.sc22 rfl ((M.cell 0 rfl 1).trans rfl)) (wM (vS k) ?_))))
 refine WL.callX rfl (bs_str kv3 n.keys k (by omega) (by assumption) (M.enterW0 ⟨((M.wideC0 2 rfl).imp fun _ h => oW h), trivial⟩)) (CallsF.func Try.en83 rfl) ?_
 rintro _ w16 ⟨rfl, m⟩
 replace M := M.leaveW0 m
 clear m
 refine wM (Value.tuple #[(vI (↑(bsI n.keys k))), (vB (bsF n.keys k))]) (wP (vI (↑(bsI n.keys k))) (wP (vB (bsF n.keys k)) (wA (vI (↑(bsI n.keys k))) (wA (vB (bsF n.keys k)) (WL.nil (W.seq' (W.block (wR (wM (vB (bsF n.keys k)) (wM (vB (bsF n.keys k)) ?_))))))))))
 rcases Bool.eq_false_or_eq_true (bsF n.keys k) with h17 | h17
 ·
  have hbl_ := bsF_lt h17
  rw [h17]
  refine wP (vP b13) (wS (vB n.leaf) rfl (Step.load1 Try.sc4 rfl ((M.cell 0 rfl 0).trans rfl)) (wS (vB n.leaf) rfl (Step.pick (t := true) rfl rfl) (wA (vB n.leaf) (WL.nil ?_))))
  refine W.cond (t := n.leaf) rfl (fun h18 => ?_) (fun h18 => ?_)
  ·
   have hlf_ : n.leaf = true := h18
   refine W.seq' ?_
   refine W.drawn2 M [0, 1, 2, 3, 4, 5, 6, 7, 8, 9, 10, 11, 12] [13, 14, 15] [5, 11, 13, 15] [] _ _ (sY (sY (sN (sY (sN (sY sE)))))) (fun _ h => h) Try.mixed (by kernel_rfl) ?_
   refine tQ (Value.pointer (some ⟨b13, 1, none⟩)) rfl (tR kv3 rfl (fun A w M => (Step.load1 Try.sc22 rfl ((M.cell 1 rfl 1).trans rfl))) (tM (vI (↑(bsI n.keys k))) rfl (tM (vI (↑(bsI n.keys k))) rfl (tP (vI (↑((bsI n.keys k) + 1))) rfl (fun w => (Step.cast (congrArg (Value.int .i64) (show (↑(bsI n.keys k) + 1 : Int) = ↑((bsI n.keys k) + 1) by omega)) (Step.add rfl rfl (wrap_i64 (by omega))))) ?_))))
   let Q : List Chunk := [bk b13 #[(vB n.leaf), kv3, dv4, vv5] 99, arenaC 143 145 S ab l, oH dv4 n.kids, oI vv5 n.vals, bk b1 #[(vI h.at_), (vI h.turn)] 92]
   refine TW.callX (ι := Value) (fun jx v_ => v_ = jx) (fun jx => oS jx (n.keys.take (Int.toNat (↑(bsI n.keys k))) ++ n.keys.drop (Int.toNat (↑((bsI n.keys k) + 1)))) :: Q) (fun jx => [bF tb #[(vP ab), (vI r.at_), (vI r.turn), (vB fu), (vI ln)] 94]) rfl (by decide) rfl (fun jx => (sN (sY (sY (sY (sN (sY sE))))))) (fun jx r h => h) (fun A w M => have fq := M.frm [oS kv3 n.keys] (fl A :: Q) [3, 0, 1, 2, 4, 5, 6] rfl; Rets.mono (delete_str kv3 n.keys (↑(bsI n.keys k)) (↑((bsI n.keys k) + 1)) (by omega) (M.eF fq trivial)) (fun v_ w_ ⟨v31, e_, m⟩ => ⟨v31, e_, (M.lF fq m).sel [1, 0, 2, 3, 4, 5, 6] rfl (by decide), fun b hb => M.kF fq m b hb⟩)) (fun w => CallsF.func Try.en89 rfl) (fun v31 v hp hin => ?_)
   replace hp := hp.symm; subst hp
   obtain ⟨_, _, hin⟩ := hin
   have sl32 : IsSl v31 := SlAt.isSl (oW (Mem.chunk hin 1 rfl).inv)
   have hle33 := SlAt.le' (oW (Mem.chunk hin 1 rfl).inv)
   clear hin
   refine tQ (Value.pointer (some ⟨b13, 3, none⟩)) rfl (tR vv5 rfl (fun A w M => (Step.load1 Try.sc97 rfl ((M.cell 1 rfl 3).trans rfl))) (tM (vI (↑(bsI n.keys k))) rfl (tM (vI (↑(bsI n.keys k))) rfl (tP (vI (↑((bsI n.keys k) + 1))) rfl (fun w => (Step.cast (congrArg (Value.int .i64) (show (↑(bsI n.keys k) + 1 : Int) = ↑((bsI n.keys k) + 1) by omega)) (Step.add rfl rfl (wrap_i64 (by omega))))) ?_))))
   let Q : List Chunk := [oS v31 (n.keys.take (Int.toNat (↑(bsI n.keys k))) ++ n.keys.drop (Int.toNat (↑((bsI n.keys k) + 1)))), bk b13 #[(vB n.leaf), kv3, dv4, vv5] 99, arenaC 143 145 S ab l, oH dv4 n.kids, bk b1 #[(vI h.at_), (vI h.turn)] 92]
   refine TW.callX (ι := Value) (fun jx v_ => v_ = jx) (fun jx => oI jx (n.vals.take (Int.toNat (↑(bsI n.keys k))) ++ n.vals.drop (Int.toNat (↑((bsI n.keys k) + 1)))) :: Q) (fun jx => [bF tb #[(vP ab), (vI r.at_), (vI r.turn), (vB fu), (vI ln)] 94]) rfl (by decide) rfl (fun jx => (sN (sN (sY (sY (sY (sY sE))))))) (fun jx r h => h) (fun A w M => have fq := M.frm [oI vv5 n.vals] (fl A :: Q) [5, 0, 1, 2, 3, 4, 6] rfl; Rets.mono (delete_int vv5 n.vals (↑(bsI n.keys k)) (↑((bsI n.keys k) + 1)) (by omega) (M.eF fq trivial)) (fun v_ w_ ⟨v34, e_, m⟩ => ⟨v34, e_, (M.lF fq m).sel [1, 0, 2, 3, 4, 5, 6] rfl (by decide), fun b hb => M.kF fq m b hb⟩)) (fun w => CallsF.func Try.en90 rfl) (fun v34 v hp hin => ?_)
   replace hp := hp.symm; subst hp
   obtain ⟨_, _, hin⟩ := hin
   have sl35 : IsSl v34 := SlAt.isSl (oW (Mem.chunk hin 1 rfl).inv)
   have hle36 := SlAt.le' (oW (Mem.chunk hin 1 rfl).inv)
   clear hin
   refine tQ (Value.pointer (some ⟨b13, 1, none⟩)) rfl ?_
   refine TW.turn _ _ (sY (sY (sN (sY (sY (sY sE)))))) (fun _ h => h) ?_
   refine TW.store (v := v31) (cs := [v31]) (c' := #[(vB n.leaf), v31, dv4, vv5]) 2 rfl rfl (by decide) rfl Try.el22.sized rfl rfl (IsSl.list sl32) rfl (nL rfl) (cC (IsSl.cel sl32) cel_nil) rfl rfl (sY (sY (sN (sY (sY (sY sE)))))) (fun r h => h) ?_
   refine tQ (Value.pointer (some ⟨b13, 3, none⟩)) rfl ?_
   refine TW.store (v := v34) (cs := [v34]) (c' := #[(vB n.leaf), v31, dv4, v34]) 2 rfl rfl (by decide) rfl Try.el97.sized rfl rfl (IsSl.list sl35) rfl (nL rfl) (cC (IsSl.cel sl35) cel_nil) rfl rfl (sY (sY (sN (sY (sY (sY sE)))))) (fun r h => h) ?_
   refine TW.done (fun w39 M => ?_)
   refine wR (wM (vP tb) (wS (Value.agg #[(vI h.at_), (vI h.turn)]) rfl (Step.loadN Try.ag92 rfl (M.blk 5 rfl) (nL rfl) rfl) (wS (Value.agg #[(vB n.leaf), v31, dv4, v34]) rfl (Step.loadN Try.ag99 rfl (M.blk 2 rfl) (nL rfl) rfl) ?_)))
   have fq := M.frm [arenaC 143 145 S ab l] [oI v34 (n.vals.take (Int.toNat (↑(bsI n.keys k))) ++ n.vals.drop (Int.toNat (↑((bsI n.keys k) + 1)))), oS v31 (n.keys.take (Int.toNat (↑(bsI n.keys k))) ++ n.keys.drop (Int.toNat (↑((bsI n.keys k) + 1)))), bk b13 #[(vB n.leaf), v31, dv4, v34] 99, oH dv4 n.kids, bk b1 #[(vI h.at_), (vI h.turn)] 92] [3, 0, 1, 2, 4, 5] rfl
   refine WL.callX rfl (tr_put tb ab r fu ln l S h v31 dv4 v34 (⟨n.leaf, n.keys.take (Int.toNat (↑(bsI n.keys k))) ++ n.keys.drop (Int.toNat (↑((bsI n.keys k) + 1))), n.kids, n.vals.take (Int.toNat (↑(bsI n.keys k))) ++ n.vals.drop (Int.toNat (↑((bsI n.keys k) + 1)))⟩ : Nd) (by assumption) (by simp [insL] <;> omega) (by simp [insL] <;> omega) (by simp [insL] <;> omega) (M.eF fq ⟨(M.rF fq 0 rfl), ((M.cF fq 1 rfl).imp fun _ h => oW h), ((M.cF fq 3 rfl).imp fun _ h => oW h), ((M.cF fq 0 rfl).imp fun _ h => oW h), trivial⟩)) (CallsF.func Try.en84 rfl) ?_
   rintro _ w41 ⟨S40, rfl, m⟩
   replace M := M.lF fq m
   clear m
   refine WL.nil ?_
   refine W.ret ?_
   refine ⟨.inl rfl, undef, ?_, ?_⟩
   · exact ⟨rfl, Res.none⟩
   have e42 : (remF d l h k) = (rput l h (⟨n.leaf, n.keys.take (Int.toNat (↑(bsI n.keys k))) ++ n.keys.drop (Int.toNat (↑((bsI n.keys k) + 1))), n.kids, n.vals.take (Int.toNat (↑(bsI n.keys k))) ++ n.vals.drop (Int.toNat (↑((bsI n.keys k) + 1)))⟩ : Nd)).1 := by
    rw [remF_leaf hn h17 hlf_]
    simp [List.eraseIdx_eq_take_drop_succ]
   replace M := M.rechunk 0 (c' := arenaC 143 145 S40 ab (remF d l h k)) rfl (congrArg (fun z => arenaC 143 145 S40 ab z) e42.symm)
   refine ⟨S40, ?_, M.close [0] rfl (by decide) trivial⟩
   rfl
  ·
   have hlf_ : n.leaf = false := h18
   obtain ⟨e, rfl, hkl_, hO2⟩ := remOk_hit hO hn h17 hlf_
   refine wR (wM (vB true) (wA (vB true) (WL.nil ?_)))
   refine W.cond (t := true) rfl (fun _ => ?_) (fun h => by cases h)
   refine wR (wM (vP tb) (wP (Value.pointer (some ⟨b13, 2, none⟩)) (wS dv4 rfl (Step.load1 Try.sc96 rfl ((M.cell 0 rfl 2).trans rfl)) (wM (vI (↑(bsI n.keys k))) ?_))))
   obtain ⟨cap44, hb43⟩ := SlAt.base (oW (M.chunk 3 rfl).inv) (by omega)
   obtain ⟨x45, hx45⟩ := elem_of_lt (xs := n.kids) (i := bsI n.keys k) (by omega)
   have hgd_ : n.kids.getD (bsI n.keys k) hdZero = x45 := by rw [List.getD_eq_getElem?_getD, hx45]; rfl
   obtain ⟨hLo, hO3, hM⟩ := hO2 _ hgd_
   refine wS (vQ dv4 (bsI n.keys k) 2) rfl (sX (bsI n.keys k) Try.un96 Try.el92 rfl rfl hb43) (wS (Value.agg #[(vI x45.at_), (vI x45.turn)]) rfl (Step.loadEN (k := 0) (cs' := [(vI x45.at_), (vI x45.turn)]) Try.ag92 (flat_ec (oW (M.chunk 3 rfl).inv) hx45 handleE_len) (by decide) rfl rfl rfl) ?_)
   have fq := M.frm [arenaC 143 145 S ab l] [bk b13 #[(vB n.leaf), kv3, dv4, vv5] 99, oS kv3 n.keys, oH dv4 n.kids, oI vv5 n.vals, bk b1 #[(vI h.at_), (vI h.turn)] 92] [1, 0, 2, 3, 4, 5] rfl
   refine WL.callX rfl (tr_last e tb ab r fu ln l S x45 (by assumption) (by assumption) (M.eF fq ⟨(M.rF fq 0 rfl), trivial⟩)) (CallsF.func Try.en91 rfl) ?_
   rintro _ w46 ⟨rfl, m⟩
   replace M := M.lF fq m
   clear m
   refine WL.alloc (c := #[(vS sZ), (vI 0)]) M rfl Try.el41.zero rfl (fun b47 w48 hb47 M => ?_)
   refine WL.store (v := (Value.agg #[(vS ((lastF e l x45).key)), (vI ((lastF e l x45).val))])) (cs := [(vS ((lastF e l x45).key)), (vI ((lastF e l x45).val))]) (c' := #[(vS ((lastF e l x45).key)), (vI ((lastF e l x45).val))]) M 0 rfl rfl Try.el41.sized rfl rfl rfl rfl (nL rfl) (cC rfl (cC rfl cel_nil)) rfl rfl (fun w49 M => ?_)
   refine WL.nil (W.seq' ?_)
   obtain ⟨cap51, hb50⟩ := SlAt.base (oW (M.chunk 3 rfl).inv) (by omega)
   obtain ⟨x52, hx52⟩ := elem_of_lt (xs := n.keys) (i := bsI n.keys k) (by omega)
   obtain ⟨pre53, post54, hcs55, hpre56, hback57⟩ := flat_open strE_len hx52
   replace M := M.rechunk 3 (c' := own 9 1 kv3 n.keys.length (pre53 ++ ([(vS x52)] ++ post54))) rfl (by show own 9 1 kv3 n.keys.length (n.keys.flatMap strE) = _; rw [hcs55]; rfl)
   obtain ⟨cap59, hb58⟩ := SlAt.base (oW (M.chunk 5 rfl).inv) (by omega)
   obtain ⟨x60, hx60⟩ := elem_of_lt (xs := n.vals) (i := bsI n.keys k) (by omega)
   obtain ⟨pre61, post62, hcs63, hpre64, hback65⟩ := flat_open intE_len hx60
   replace M := M.rechunk 5 (c' := own 3 1 vv5 n.vals.length (pre61 ++ ([(vI x60)] ++ post62))) rfl (by show own 3 1 vv5 n.vals.length (n.vals.flatMap intE) = _; rw [hcs63]; rfl)
   refine W.drawn M [0, 1, 2, 3, 4, 5, 6, 7, 8, 9, 10, 11, 12, 13] [11, 13] [] _ _ (sY (sY (sY (sN (sY (sN (sY sE))))))) (fun _ h => h) Try.mixed (by kernel_rfl) ?_
   refine tQ (Value.pointer (some ⟨b13, 1, none⟩)) rfl (tR kv3 rfl (fun A w M => (Step.load1 Try.sc22 rfl ((M.cell 3 rfl 1).trans rfl))) (tM (vI (↑(bsI n.keys k))) rfl (tQ (Value.pointer (some ⟨b13, 3, none⟩)) rfl (tR vv5 rfl (fun A w M => (Step.load1 Try.sc97 rfl ((M.cell 3 rfl 3).trans rfl))) (tM (vI (↑(bsI n.keys k))) rfl (tQ (vP b47) rfl (tR (vS ((lastF e l x45).key)) rfl (fun A w M => (Step.load1 Try.sc9 rfl ((M.cell 1 rfl 0).trans rfl))) (tQ (Value.pointer (some ⟨b47, 1, none⟩)) rfl (tR (vI ((lastF e l x45).val)) rfl (fun A w M => (Step.load1 Try.sc3 rfl ((M.cell 1 rfl 1).trans rfl))) (tP (vQ kv3 (bsI n.keys k) 1) rfl (fun w => (sX (bsI n.keys k) Try.un22 Try.el9 rfl rfl hb50)) ?_))))))))))
   refine TW.act (c' := own 9 1 kv3 n.keys.length (pre53 ++ ([(vS ((lastF e l x45).key))] ++ post54))) 3 rfl rfl (by decide) rfl (sY (sY (sY (sN (sY (sN (sY sE))))))) (fun r h => h) (fun A w M => M.storeAt (cells := [(vS x52)]) (cells' := [(vS ((lastF e l x45).key))]) (new := [(vS ((lastF e l x45).key))]) (k := 0) 4 rfl hpre56 Try.el9.sized rfl rfl rfl (cC rfl cel_nil) (by first | omega | (simp only [List.length_set, List.length_append, List.length_cons, List.length_nil]; omega)) (nL rfl) rfl rfl) ?_
   refine tP (vQ vv5 (bsI n.keys k) 1) rfl (fun w => (sX (bsI n.keys k) Try.un97 Try.el3 rfl rfl hb58)) ?_
   refine TW.act (c' := own 3 1 vv5 n.vals.length (pre61 ++ ([(vI ((lastF e l x45).val))] ++ post62))) 5 rfl rfl (by decide) rfl (sY (sY (sY (sN (sY (sN (sY sE))))))) (fun r h => h) (fun A w M => M.storeAt (cells := [(vI x60)]) (cells' := [(vI ((lastF e l x45).val))]) (new := [(vI ((lastF e l x45).val))]) (k := 0) 6 rfl hpre64 Try.el3.sized rfl rfl rfl (cC rfl cel_nil) (by first | omega | (simp only [List.length_set, List.length_append, List.length_cons, List.length_nil]; omega)) (nL rfl) rfl rfl) ?_
   refine TW.done (fun w66 M => ?_)
   refine wR (wM (vP tb) (wS (Value.agg #[(vI h.at_), (vI h.turn)]) rfl (Step.loadN Try.ag92 rfl (M.blk 6 rfl) (nL rfl) rfl) (wS (Value.agg #[(vB n.leaf), kv3, dv4, vv5]) rfl (Step.loadN Try.ag99 rfl (M.blk 2 rfl) (nL rfl) rfl) ?_)))
   replace M := M.rechunk 3 (c' := own 9 1 kv3 (n.keys.length) ((n.keys.set (bsI n.keys k) ((lastF e l x45).key)).flatMap strE)) rfl (by rw [← hback57]; rfl)
   replace M := M.rechunk 3 (c' := oS kv3 (n.keys.set (bsI n.keys k) ((lastF e l x45).key))) rfl (by show _ = own 9 1 kv3 ((n.keys.set (bsI n.keys k) ((lastF e l x45).key)).length) ((n.keys.set (bsI n.keys k) ((lastF e l x45).key)).flatMap strE); rw [List.length_set])
   replace M := M.rechunk 5 (c' := own 3 1 vv5 (n.vals.length) ((n.vals.set (bsI n.keys k) ((lastF e l x45).val)).flatMap intE)) rfl (by rw [← hback65]; rfl)
   replace M := M.rechunk 5 (c' := oI vv5 (n.vals.set (bsI n.keys k) ((lastF e l x45).val))) rfl (by show _ = own 3 1 vv5 ((n.vals.set (bsI n.keys k) ((lastF e l x45).val)).length) ((n.vals.set (bsI n.keys k) ((lastF e l x45).val)).flatMap intE); rw [List.length_set])
   have fq := M.frm [arenaC 143 145 S ab l] [bk b47 #[(vS ((lastF e l x45).key)), (vI ((lastF e l x45).val))] 41, bk b13 #[(vB n.leaf), kv3, dv4, vv5] 99, oS kv3 (n.keys.set (bsI n.keys k) ((lastF e l x45).key)), oH dv4 n.kids, oI vv5 (n.vals.set (bsI n.keys k) ((lastF e l x45).val)), bk b1 #[(vI h.at_), (vI h.turn)] 92] [1, 0, 2, 3, 4, 5, 6] rfl
   refine WL.callX rfl (tr_put tb ab r fu ln l S h kv3 dv4 vv5 (⟨n.leaf, n.keys.set (bsI n.keys k) ((lastF e l x45).key), n.kids, n.vals.set (bsI n.keys k) ((lastF e l x45).val)⟩ : Nd) (by assumption) (by simp [insL] <;> omega) (by simp [insL] <;> omega) (by simp [insL] <;> omega) (M.eF fq ⟨(M.rF fq 0 rfl), ((M.cF fq 2 rfl).imp fun _ h => oW h), ((M.cF fq 3 rfl).imp fun _ h => oW h), ((M.cF fq 4 rfl).imp fun _ h => oW h), trivial⟩)) (CallsF.func Try.en84 rfl) ?_
   rintro _ w68 ⟨S67, rfl, m⟩
   replace M := M.lF fq m
   clear m
   refine WL.nil ?_
   obtain ⟨l1_, hl1_⟩ : ∃ q, ((rput l h (⟨n.leaf, n.keys.set (bsI n.keys k) ((lastF e l x45).key), n.kids, n.vals.set (bsI n.keys k) ((lastF e l x45).val)⟩ : Nd)).1) = q := ⟨_, rfl⟩
   have hAl1_ : SmallA l1_ := by rw [← hl1_]; first | exact SmallA.put (by assumption) (by first | omega | (simp [insL] <;> omega)) (by first | omega | (simp [insL] <;> omega)) (by first | omega | (simp [insL] <;> omega)) | exact SmallA.free (by assumption)
   replace M := M.rechunk 0 (c' := arenaC 143 145 S67 ab l1_) rfl (by rw [hl1_])
   rw [hl1_] at hO3 hM
   refine W.region rfl (wP (vP b47) (wS (vS ((lastF e l x45).key)) rfl (Step.load1 Try.sc9 rfl ((M.cell 1 rfl 0).trans rfl)) (wA (vS ((lastF e l x45).key)) (WL.nil (W.seq' ?_)))))
   replace M := M.loseI 1
   refine W.region rfl (wM (vP tb) (wP (Value.pointer (some ⟨b13, 2, none⟩)) (wS dv4 rfl (Step.load1 Try.sc96 rfl ((M.cell 1 rfl 2).trans rfl)) (wM (vI (↑(bsI n.keys k))) (wS (vQ dv4 (bsI n.keys k) 2) rfl (sX (bsI n.keys k) Try.un96 Try.el92 rfl rfl hb43) (wS (Value.agg #[(vI x45.at_), (vI x45.turn)]) rfl (Step.loadEN (k := 0) (cs' := [(vI x45.at_), (vI x45.turn)]) Try.ag92 (flat_ec (oW (M.chunk 3 rfl).inv) hx45 handleE_len) (by decide) rfl rfl rfl) (wM (vS ((lastF e l x45).key)) ?_)))))))
   have fq := M.frm [arenaC 143 145 S67 ab l1_] [bk b13 #[(vB n.leaf), kv3, dv4, vv5] 99, oS kv3 (n.keys.set (bsI n.keys k) ((lastF e l x45).key)), oH dv4 n.kids, oI vv5 (n.vals.set (bsI n.keys k) ((lastF e l x45).val)), bk b1 #[(vI h.at_), (vI h.turn)] 92] [0, 1, 2, 3, 4, 5] rfl
   refine WL.callX rfl (ih e (by omega) tb ab r fu ln l1_ S67 x45 ((lastF e l x45).key) (by assumption) (M.eF fq ⟨(M.rF fq 0 rfl), trivial⟩)) (CallsF.func Try.en48 rfl) ?_
   rintro _ w70 ⟨S69, rfl, m⟩
   replace M := M.lF fq m
   clear m
   refine WL.nil ?_
   replace M := M.loseI 4
   replace M := M.loseI 3
   replace M := M.loseI 2
   replace M := M.loseI 1
   refine W.region rfl (wM (vP tb) (wS (Value.agg #[(vI h.at_), (vI h.turn)]) rfl (Step.loadN Try.ag92 rfl (M.blk 1 rfl) (nL rfl) rfl) (wM (vI (↑(bsI n.keys k))) ?_)))
   have fq := M.frm [arenaC 143 145 S69 ab (remF e l1_ x45 ((lastF e l x45).key))] [bk b1 #[(vI h.at_), (vI h.turn)] 92] [0, 1] rfl
   refine WL.callX rfl (tr_mend tb ab r fu ln (remF e l1_ x45 ((lastF e l x45).key)) S69 h (bsI n.keys k) (by assumption) (M.eF fq ⟨(M.rF fq 0 rfl), trivial⟩)) (CallsF.func Try.en92 rfl) ?_
   rintro _ w72 ⟨S71, rfl, m⟩
   replace M := M.lF fq m
   clear m
   refine WL.nil ?_
   refine ⟨.inr rfl, undef, ?_, ?_⟩
   · exact ⟨rfl, Res.none⟩
   have e73 : (remF (e + 1) l h k) = (mendF (remF e l1_ x45 ((lastF e l x45).key)) h (bsI n.keys k)) := by
    rw [remF_hit hn h17 hlf_ hgd_]
    rw [hl1_]
   replace M := M.rechunk 0 (c' := arenaC 143 145 S71 ab (remF (e + 1) l h k)) rfl (congrArg (fun z => arenaC 143 145 S71 ab z) e73.symm)
   refine ⟨S71, ?_, M.close [0] rfl (by decide) trivial⟩
   rfl
 ·
  obtain ⟨e, rfl, hkl_, hO2⟩ := remOk_miss hO hn h17
  rw [h17]
  refine WL.pass rfl (WL.pass rfl (wS (vB false) rfl (Step.pick (t := false) rfl rfl) (wA (vB false) (WL.nil ?_))))
  refine W.cond (t := false) rfl (fun h => by cases h) (fun _ => ?_)
  refine wR (wM (vB false) (wA (vB false) (WL.nil ?_)))
  refine W.cond (t := false) rfl (fun h => by cases h) (fun _ => ?_)
  refine W.skip (wR (wM (vP tb) (wP (Value.pointer (some ⟨b13, 2, none⟩)) (wS dv4 rfl (Step.load1 Try.sc96 rfl ((M.cell 0 rfl 2).trans rfl)) (wM (vI (↑(bsI n.keys k))) ?_)))))
  obtain ⟨cap75, hb74⟩ := SlAt.base (oW (M.chunk 3 rfl).inv) (by omega)
  obtain ⟨x76, hx76⟩ := elem_of_lt (xs := n.kids) (i := bsI n.keys k) (by omega)
  have hgd_ : n.kids.getD (bsI n.keys k) hdZero = x76 := by rw [List.getD_eq_getElem?_getD, hx76]; rfl
  obtain ⟨hO3, hM⟩ := hO2 _ hgd_
  refine wS (vQ dv4 (bsI n.keys k) 2) rfl (sX (bsI n.keys k) Try.un96 Try.el92 rfl rfl hb74) (wS (Value.agg #[(vI x76.at_), (vI x76.turn)]) rfl (Step.loadEN (k := 0) (cs' := [(vI x76.at_), (vI x76.turn)]) Try.ag92 (flat_ec (oW (M.chunk 3 rfl).inv) hx76 handleE_len) (by decide) rfl rfl rfl) (wM (vS k) ?_))
  have fq := M.frm [arenaC 143 145 S ab l] [bk b13 #[(vB n.leaf), kv3, dv4, vv5] 99, oS kv3 n.keys, oH dv4 n.kids, oI vv5 n.vals, bk b1 #[(vI h.at_), (vI h.turn)] 92] [1, 0, 2, 3, 4, 5] rfl
  refine WL.callX rfl (ih e (by omega) tb ab r fu ln l S x76 k (by assumption) (M.eF fq ⟨(M.rF fq 0 rfl), trivial⟩)) (CallsF.func Try.en48 rfl) ?_
  rintro _ w78 ⟨S77, rfl, m⟩
  replace M := M.lF fq m
  clear m
  refine WL.nil ?_
  replace M := M.loseI 4
  replace M := M.loseI 3
  replace M := M.loseI 2
  replace M := M.loseI 1
  refine W.region rfl (wM (vP tb) (wS (Value.agg #[(vI h.at_), (vI h.turn)]) rfl (Step.loadN Try.ag92 rfl (M.blk 1 rfl) (nL rfl) rfl) (wM (vI (↑(bsI n.keys k))) ?_)))
  have fq := M.frm [arenaC 143 145 S77 ab (remF e l x76 k)] [bk b1 #[(vI h.at_), (vI h.turn)] 92] [0, 1] rfl
  refine WL.callX rfl (tr_mend tb ab r fu ln (remF e l x76 k) S77 h (bsI n.keys k) (by assumption) (M.eF fq ⟨(M.rF fq 0 rfl), trivial⟩)) (CallsF.func Try.en92 rfl) ?_
  rintro _ w80 ⟨S79, rfl, m⟩
  replace M := M.lF fq m
  clear m
  refine WL.nil ?_
  refine ⟨.inr rfl, undef, ?_, ?_⟩
  · exact ⟨rfl, Res.none⟩
  have e81 : (remF (e + 1) l h k) = (mendF (remF e l x76 k) h (bsI n.keys k)) := by
   rw [remF_miss hn h17 hgd_]
  replace M := M.rechunk 0 (c' := arenaC 143 145 S79 ab (remF (e + 1) l h k)) rfl (congrArg (fun z => arenaC 143 145 S79 ab z) e81.symm)
  refine ⟨S79, ?_, M.close [0] rfl (by decide) trivial⟩
  rfl
end Go.Proofs
namespace Tp
open Go
section
variable {l l' l1 l2 : List RPlace} {d lo : Nat} {h : Handle} {ks P Q : List THit} {ts A B : List BT} {a b c t : BT} {u x z : THit} {K : Nat} {S : List Handle} {k : ByteArray}
theorem upS_keys (hu : upT ks) : upS (ks.map THit.key) := List.pairwise_map.2 hu
theorem node_ok (H : HoldsB l d (.mk h ks ts)) (hu : upT ks) (hB : BigA l K) (hK : K ≤ 1000000) : NodeOk l (rget l h).1 := by
  have e := (holds_mk.1 H).1
  rw [atA_get e]
  exact ⟨hB.small hK, hB.at e, by simp [nodeB], by rw [nodeB_keys]; exact upS_keys hu⟩
theorem kids_len (ho : okK (d + 1) ks ts) : (nodeB (d + 1) (.mk h ks ts)).kids.length = (nodeB (d + 1) (.mk h ks ts)).keys.length + 1 := by
  rw [nodeB_kids, if_neg (by simp), nodeB_keys, List.length_map, List.length_map]; exact ho.1
theorem ins_okW : ∀ (d : Nat) {l : List RPlace} {t : BT} {x : THit} {K lo : Nat}, HoldsB l d t → (hsB d t).Nodup → okB lo d t → (1 ≤ lo ∨ d = 0) → lo ≤ 2 → upT (flatB d t) → BigA l K → K + d + 1 ≤ 1000000 → insOk d l t.h x := by
  intro d
  induction d with
  | zero =>
    intro l t x K lo H hn ho hl1 hlo hu hB hK
    obtain ⟨h, ks, ts⟩ := t
    refine ⟨node_ok H (ks_up ho hu) hB (by omega), fun _ => ?_⟩
    rw [show (BT.mk h ks ts).h = h from rfl, atA_get (holds_mk.1 H).1]; rfl
  | succ d ih =>
    intro l t x K lo H hn ho hl1 hlo hu hB hK
    obtain ⟨h, ks, ts⟩ := t
    have hu' := ks_up ho hu
    obtain ⟨o1, o2, o3⟩ := ok_mk.1 ho
    refine ⟨node_ok H hu' hB (by omega), fun hf hl => ?_⟩
    have hg : (rget l h).1 = nodeB (d + 1) (.mk h ks ts) := by rw [atA_get (holds_mk.1 H).1]
    simp only [BT.h, hg, nodeB_keys] at hf hl ⊢
    obtain ⟨P, Q, rfl, hP, lP, hQ⟩ := bs_miss hu' hf
    obtain ⟨A, c, B, rfl, hA, hBl, hfl⟩ := flat_at (h := h) o3
    have hc : ((nodeB (d + 1) (.mk h (P ++ Q) (A ++ c :: B))).kids.getD (bsI ((P ++ Q).map THit.key) x.key) hdZero) = c.h := by
      rw [nodeB_kids, if_neg (by simp), List.map_append, List.map_cons]
      exact getD_mid (by rw [List.length_map, hA, hP])
    have hnc : (hsB d c).Nodup := by
      rw [hsB_mk, hsK_mid] at hn
      exact (List.nodup_append.1 (List.nodup_append.1 (List.nodup_cons.1 hn).2).2.1).1
    rw [hfl] at hu
    have hcH := (holds_mk.1 H).2 c (by simp)
    have hco := o3.2 c (by simp)
    rw [hc]
    refine ⟨by have := kids_len (h := h) o3; rw [nodeB_keys] at this; exact this, ih hcH hnc hco (.inl (by omega)) (by omega) (mid_up hu) hB (by omega), ?_⟩
    exact (ins_ok d (x := x) hcH hnc hco (.inl (by omega)) (by omega) (mid_up hu) hB).1.big.small (by omega)
theorem last_okW : ∀ {d : Nat} {t : BT}, HoldsB l d t → okB 1 d t → BigA l K → lastOk d l t.h := by
  intro d
  induction d with
  | zero =>
    intro t H ho hB
    obtain ⟨h, ks, ts⟩ := t
    have e := (holds_mk.1 H).1
    unfold lastOk
    rw [show (BT.mk h ks ts).h = h from rfl, atA_get e]
    exact ⟨⟨hB.at e, by simp [nodeB]⟩, by simpa [nodeB_keys] using (ok_mk.1 ho).1, rfl⟩
  | succ d ih =>
    intro t H ho hB
    obtain ⟨h, ks, ts⟩ := t
    have e := (holds_mk.1 H).1
    obtain ⟨o1, o2, o3, o4⟩ := ok_mk.1 ho
    obtain ⟨A, c, rfl⟩ : ∃ A c, ts = A ++ [c] := ⟨ts.dropLast, ts.getLast (by rintro rfl; simp at o3), (List.dropLast_concat_getLast _).symm⟩
    unfold lastOk
    rw [show (BT.mk h ks (A ++ [c])).h = h from rfl, atA_get e]
    refine ⟨⟨hB.at e, by simp [nodeB]⟩, by simpa [nodeB_keys] using o1, fun _ => ⟨by simp [nodeB, BT.ts], ?_⟩⟩
    have hc : ((nodeB (d + 1) (.mk h ks (A ++ [c]))).kids.getD ((nodeB (d + 1) (.mk h ks (A ++ [c]))).kids.length - 1) hdZero) = c.h := by
      rw [nodeB_kids, if_neg (by simp)]; simp [List.getD]
    simp only [hc]
    exact ih ((holds_mk.1 H).2 c (by simp)) (okB_low (o4 c (by simp)) (by omega)) hB
theorem kids_of (H : okB lo d c) (h0 : (nodeB d c).leaf = false) : (nodeB d c).kids.length = (nodeB d c).keys.length + 1 := by
  cases d with
  | zero => simp [nodeB] at h0
  | succ d => obtain ⟨h, ks, ts⟩ := c; exact kids_len (ok_mk.1 H).2.2
theorem pair_okW (H : PairB l d h P Q u A B a b) (hB : BigA l K) (hK : K ≤ 1000000) : pairOk l h P.length := by
  obtain ⟨k1, k2⟩ := H.kid
  unfold pairOk
  rw [k1, k2, H.get, atA_get H.ha.self, atA_get H.hb.self]
  refine ⟨hB.small hK, hB.at H.at_, hB.at H.ha.self, hB.at H.hb.self, by simp [nodeB], by simp [nodeB], by simp [nodeB], by simp [nodeB, BT.ks], ?_, ?_, ?_, rfl, fun h0 => kids_of H.oka h0, fun h0 => kids_of H.okb (by simpa [nodeB] using h0)⟩
  · simp [nodeB, BT.ks, BT.ts, H.lenA, H.lenB]; omega
  · have := (okB_len H.oka).1; simpa [nodeB] using this
  · have := (okB_len H.okb).1; simpa [nodeB] using this
theorem mend_okW (e : atA l h = some (nodeB (d + 1) (.mk h ks (A ++ c :: B)))) (hk : kidsH l (d + 1) (A ++ c :: B)) (hn : (h :: hsK (d + 1) (A ++ c :: B)).Nodup) (hl : (A ++ c :: B).length = ks.length + 1)
    (h1' : 1 ≤ ks.length) (hA : ∀ s, s ∈ A → okB 2 d s) (hc : okB 1 d c) (hB : ∀ s, s ∈ B → okB 2 d s) (hb : BigA l K) (hK : K ≤ 1000000) : mendOk l h A.length := by
  have gn : (rget l h).1 = nodeB (d + 1) (.mk h ks (A ++ c :: B)) := by rw [atA_get e]
  have kl : (rget l h).1.kids.length = A.length + B.length + 1 := by rw [gn, nodeB_kids, if_neg (by simp), List.length_map, List.length_append, List.length_cons]; omega
  have hlen : A.length + B.length = ks.length := by simp at hl; omega
  refine ⟨hb.small hK, by rw [gn]; exact hb.at e, by rw [kl]; omega, by rw [kl]; omega, fun _ => ⟨fun hi => ?_, fun hi => ?_⟩⟩
  · obtain ⟨A', a, rfl⟩ : ∃ A' a, A = A' ++ [a] := ⟨A.dropLast, A.getLast (by rintro rfl; simp at hi), (List.dropLast_concat_getLast _).symm⟩
    obtain ⟨P, u, Q, rfl, hP⟩ := split_at (l := ks) (i := A'.length) (by simp at hlen; omega)
    have hQ : B.length = Q.length := by simp at hlen; omega
    have ee : (A' ++ [a]) ++ c :: B = A' ++ a :: c :: B := by simp
    rw [ee] at e hk hn
    have H : PairB l d h P Q u A' B a c := ⟨e, hk, hn, hP.symm, hQ, fun s hs => hA s (by simp [hs]), hB, okB_low (hA a (by simp)) (by omega), hc⟩
    have := pair_okW H hb hK
    simpa [hP] using this
  · rw [kl] at hi
    cases B with
    | nil => simp at hi
    | cons b B' =>
      obtain ⟨P, u, Q, rfl, hP⟩ := split_at (l := ks) (i := A.length) (by simp at hlen; omega)
      have hQ : B'.length = Q.length := by simp at hlen; omega
      have H : PairB l d h P Q u A B' c b := ⟨e, hk, hn, hP.symm, hQ, hA, fun s hs => hB s (by simp [hs]), hc, okB_low (hB b (by simp)) (by omega)⟩
      have := pair_okW H hb hK
      rwa [hP] at this
theorem sub_mendW {row : List THit} (e : atA l h = some (nodeB (d + 1) (.mk h (P ++ Q) (A ++ c :: B)))) (hk : kidsH l (d + 1) (A ++ c :: B)) (hn : (h :: hsK (d + 1) (A ++ c :: B)).Nodup) (hA : A.length = P.length) (hB : B.length = Q.length)
    (h1 : 1 ≤ (P ++ Q).length) (oA : ∀ s, s ∈ A → okB 2 d s) (oB : ∀ s, s ∈ B → okB 2 d s) (R : RemB l l2 1 d (hsB d c) c.h row K) (hK : K ≤ 1000000) : mendOk l2 h P.length := by
  obtain ⟨c', hc1, hc2, hc3, hc4, hc5, hc6, hc7⟩ := R.parts
  have hn' := hn
  rw [hsK_mid] at hn'
  obtain ⟨n1, n2⟩ := List.nodup_cons.1 hn'
  rw [List.mem_append, List.mem_append, not_or, not_or] at n1
  obtain ⟨nA, n3, nAX⟩ := List.nodup_append.1 n2
  obtain ⟨nc, nB, ncB⟩ := List.nodup_append.1 n3
  have e2 : atA l2 h = some (nodeB (d + 1) (.mk h (P ++ Q) (A ++ c' :: B))) := by
    rw [R.same _ _ n1.2.1 e]; simp [nodeB, BT.ks, BT.ts, hc1]
  have k2 : kidsH l2 (d + 1) (A ++ c' :: B) := fun s hs => by
    rcases List.mem_append.1 hs with hs | hs
    · exact (hk s (by simp [hs])).same R.same fun q hq hm => nAX q (List.mem_flatMap.2 ⟨s, hs, hq⟩) q (List.mem_append_left _ hm) rfl
    · rcases List.mem_cons.1 hs with rfl | hs
      · exact hc2
      · exact (hk s (by simp [hs])).same R.same fun q hq hm => ncB q hm q (List.mem_flatMap.2 ⟨s, hs, hq⟩) rfl
  have nn : (h :: hsK (d + 1) (A ++ c' :: B)).Nodup := by
    rw [hsK_mid]
    refine List.nodup_cons.2 ⟨?_, List.nodup_append.2 ⟨nA, List.nodup_append.2 ⟨hc4, nB, fun q hq q' hq' e => ncB q (hc3 q hq) q' hq' e⟩, fun q hq q' hq' e => ?_⟩⟩
    · simp only [List.mem_append, not_or]; exact ⟨n1.1, fun q => n1.2.1 (hc3 h q), n1.2.2⟩
    · rcases List.mem_append.1 hq' with hq' | hq'
      · exact nAX q hq q' (List.mem_append_left _ (hc3 _ hq')) e
      · exact nAX q hq q' (List.mem_append_right _ hq') e
  have := mend_okW e2 k2 nn (by simp [hA, hB]; omega) h1 oA hc5 oB R.big hK
  rwa [hA] at this
theorem rem_okW : ∀ (d : Nat) {l : List RPlace} {t : BT} {k : ByteArray} {K lo : Nat}, HoldsB l d t → (hsB d t).Nodup → okB lo d t → 1 ≤ lo → upT (flatB d t) → BigA l K → K ≤ 1000000 → (∃ a, a ∈ flatB d t ∧ a.key = k) → remOk d l t.h k := by
  intro d
  induction d with
  | zero =>
    intro l t k K lo H hn ho hlo hu hB hK hm
    obtain ⟨h, ks, ts⟩ := t
    have e := (holds_mk.1 H).1
    refine ⟨node_ok H (ks_up ho hu) hB hK, ?_, by rw [show (BT.mk h ks ts).h = h from rfl, atA_get e]; rfl⟩
    rw [show (BT.mk h ks ts).h = h from rfl, atA_get e]
    simp only [nodeB_keys]
    cases hf : bsF (ks.map THit.key) k with
    | true => rfl
    | false =>
      obtain ⟨P, Q, rfl, hP, lP, hQ⟩ := bs_miss (show upT ks from hu) hf
      obtain ⟨a, ha, _⟩ := mem_of_bs (ks := []) lP hQ (by simpa using (show ∃ a, a ∈ P ++ Q ∧ a.key = k from hm))
      cases ha
  | succ d ih =>
    intro l t k K lo H hn ho hlo hu hB hK hm
    obtain ⟨h, ks, ts⟩ := t
    obtain ⟨o1, o2, o3⟩ := ok_mk.1 ho
    have hu' : upT ks := ks_up ho hu
    have e := (holds_mk.1 H).1
    have hk := (holds_mk.1 H).2
    rw [hsB_mk] at hn
    have hg : (rget l h).1 = nodeB (d + 1) (.mk h ks ts) := by rw [atA_get e]
    refine ⟨node_ok H hu' hB hK, fun hf hl => ?_, fun hf => ?_⟩
    · simp only [BT.h, hg, nodeB_keys, nodeB_vals] at hf ⊢
      obtain ⟨P, z, Q, rfl, hP, hz, lP, hQ⟩ := bs_hit hu' hf
      obtain ⟨A, c, B, rfl, hA, hBl, hfl⟩ := flat_at (h := h) (P := P) (Q := z :: Q) o3
      have hAk := kid_at e (i := P.length) hA
      rw [hg] at hAk
      rw [← hP, hAk]
      have oc := o3.2 c (by simp)
      rw [hfl] at hu
      obtain ⟨F, hF⟩ := last_ok (hk c (by simp)) (okB_low oc (by omega))
      refine ⟨by have := kids_len (h := h) o3; rw [nodeB_keys] at this; exact this, last_okW (hk c (by simp)) (okB_low oc (by omega)) hB, ?_⟩
      generalize lastF d l c.h = x at *
      have en : (⟨(nodeB (d + 1) (.mk h (P ++ z :: Q) (A ++ c :: B))).leaf, ((P ++ z :: Q).map THit.key).set P.length x.key, (nodeB (d + 1) (.mk h (P ++ z :: Q) (A ++ c :: B))).kids, ((P ++ z :: Q).map THit.val).set P.length x.val⟩ : Nd) = nodeB (d + 1) (.mk h (P ++ x :: Q) (A ++ c :: B)) := by
        rw [List.map_append, List.map_append, List.map_cons, List.map_cons, set_mid (by simp), set_mid (by simp)]
        simp [nodeB, BT.ks, BT.ts]
      rw [en]
      have s1 : SameA l (rput l h (nodeB (d + 1) (.mk h (P ++ x :: Q) (A ++ c :: B)))).1 [h] := SameA.put e (by simp)
      have e1 : atA (rput l h (nodeB (d + 1) (.mk h (P ++ x :: Q) (A ++ c :: B)))).1 h = some (nodeB (d + 1) (.mk h (P ++ x :: Q) (A ++ c :: B))) := by rw [put_at e, if_pos rfl]
      have b1 : BigA (rput l h (nodeB (d + 1) (.mk h (P ++ x :: Q) (A ++ c :: B)))).1 K := hB.put e (node_tiny (by simp at o2 ⊢; omega) ⟨by have := o3.1; simp at this ⊢; omega, o3.2⟩)
      generalize (rput l h (nodeB (d + 1) (.mk h (P ++ x :: Q) (A ++ c :: B)))).1 = l1 at s1 e1 b1 ⊢
      have k1 : kidsH l1 (d + 1) (A ++ c :: B) := kidsH_same s1 hk fun q hq hm => by rw [List.mem_singleton.1 hm] at hq; exact (List.nodup_cons.1 hn).1 hq
      have hnc : (hsB d c).Nodup := by
        rw [hsK_mid] at hn
        exact (List.nodup_append.1 (List.nodup_append.1 (List.nodup_cons.1 hn).2).2.1).1
      have hcu : upT (flatB d c) := mid_up hu
      have hmem : ∃ a, a ∈ flatB d c ∧ a.key = x.key := ⟨x, by rw [hF]; simp, rfl⟩
      refine ⟨ih (lo := 2) (k1 c (by simp)) hnc oc (by omega) hcu b1 hK hmem, ?_⟩
      have R := rem_ok d (k := x.key) (lo := 2) (k1 c (by simp)) hnc oc (by omega) hcu b1 hmem
      exact sub_mendW (P := P) (Q := x :: Q) e1 k1 hn hA (by simpa using hBl) (by simp; omega) (fun s hs => o3.2 s (by simp [hs])) (fun s hs => o3.2 s (by simp [hs])) R hK
    · simp only [BT.h, hg, nodeB_keys] at hf ⊢
      obtain ⟨P, Q, rfl, hP, lP, hQ⟩ := bs_miss hu' hf
      obtain ⟨A, c, B, rfl, hA, hBl, hfl⟩ := flat_at (h := h) o3
      have hAk := kid_at e (i := P.length) hA
      rw [hg] at hAk
      rw [← hP, hAk]
      have oc := o3.2 c (by simp)
      have hnc : (hsB d c).Nodup := by
        rw [hsK_mid] at hn
        exact (List.nodup_append.1 (List.nodup_append.1 (List.nodup_cons.1 hn).2).2.1).1
      rw [hfl] at hu hm
      have low := pre_low hA hu lP
      have high := suf_high hBl hu hQ
      have hmem := mem_of_bs low high hm
      refine ⟨by have := kids_len (h := h) o3; rw [nodeB_keys] at this; exact this, ih (lo := 2) (hk c (by simp)) hnc oc (by omega) (mid_up hu) hB hK hmem, ?_⟩
      have R := rem_ok d (k := k) (lo := 2) (hk c (by simp)) hnc oc (by omega) (mid_up hu) hB hmem
      exact sub_mendW (P := P) (Q := Q) e hk hn hA hBl (by omega) (fun s hs => o3.2 s (by simp [hs])) (fun s hs => o3.2 s (by simp [hs])) R hK
end
end Tp
namespace Tp
open Go
structure TabI (l : List RPlace) (r : Handle) (fu : Bool) (ln : Int) (row : List THit) (K d : Nat) : Prop where
  up : upT row
  len : ln = row.length
  big : BigA l K
  tree : (fu = false ∧ row = [] ∧ usedN l = 0 ∧ d = 0) ∨ (fu = true ∧ ∃ t, t.h = r ∧ HoldsB l d t ∧ (hsB d t).Nodup ∧ okB 1 d t ∧ row = flatB d t ∧ usedN l = (hsB d t).length)
def put0 (l : List RPlace) (r : Handle) (fu : Bool) : List RPlace × Handle := if fu then (l, r) else rmake l ⟨true, [], [], []⟩
def putU (q : List RPlace × (Int × Bool) × Option (THit × Handle)) (r : Handle) : List RPlace × Handle :=
  match q.2.2 with
  | none => (q.1, r)
  | some u => rmake q.1 ⟨false, [u.1.key], [r, u.2], [u.1.val]⟩
def putT (d : Nat) (l : List RPlace) (r : Handle) (fu : Bool) (ln : Int) (x : THit) : (List RPlace × Handle) × Int × (Int × Bool) :=
  let q := insF d (put0 l r fu).1 (put0 l r fu).2 x
  (putU q (put0 l r fu).2, if q.2.1.2 then ln else ln + 1, q.2.1)
section
variable {l l' : List RPlace} {d lo K : Nat} {r h : Handle} {fu : Bool} {ln : Int} {row : List THit} {x : THit} {t : BT} {k : ByteArray}
theorem flat_deep : ∀ {d lo : Nat} {t : BT}, okB lo d t → 1 ≤ lo → d + 1 ≤ (flatB d t).length := by
  intro d
  induction d with
  | zero => intro lo t ho hl; obtain ⟨h, ks, ts⟩ := t; have := (ok_mk.1 ho).1; simp only [flatB, BT.ks]; omega
  | succ d ih =>
    intro lo t ho hl
    obtain ⟨h, ks, ts⟩ := t
    obtain ⟨o1, o2, o3⟩ := ok_mk.1 ho
    cases ks with
    | nil => simp at o1; omega
    | cons z ks =>
      obtain ⟨A, c, B, rfl, hA, hB, hf⟩ := flat_at (h := h) (P := []) (Q := z :: ks) o3
      cases B with
      | nil => simp at hB
      | cons b B =>
        have := ih (o3.2 c (by simp)) (show 1 ≤ 2 by omega)
        rw [List.nil_append] at hf
        rw [hf, List.map_cons, sufW_cons]
        simp only [List.length_append, List.length_cons]; omega
theorem getL_len (hu : upT row) : (putL row x).length = if (getL row x.key).2 then row.length else row.length + 1 := by
  cases hf : bsF (row.map THit.key) x.key with
  | true =>
    obtain ⟨P, z, Q, rfl, hP, hz, lP, hQ⟩ := bs_hit hu hf
    rw [putL_hit lP hQ hz, getL_hit lP hz]; simp
  | false =>
    obtain ⟨P, Q, rfl, hP, lP, hQ⟩ := bs_miss hu hf
    rw [putL_new lP hQ, getL_no lP hQ]; simp; omega
theorem delL_len (hu : upT row) (hg : (getL row k).2 = true) : (delL row k).length + 1 = row.length := by
  cases hf : bsF (row.map THit.key) k with
  | true =>
    obtain ⟨P, z, Q, rfl, hP, hz, lP, hQ⟩ := bs_hit hu hf
    rw [delL_hit lP hQ hz]; simp; omega
  | false =>
    obtain ⟨P, Q, rfl, hP, lP, hQ⟩ := bs_miss hu hf
    rw [getL_no lP hQ] at hg; cases hg
theorem put0_ok (H : TabI l r fu ln row K d) : ∃ t, t.h = (put0 l r fu).2 ∧ HoldsB (put0 l r fu).1 d t ∧ (hsB d t).Nodup ∧ (okB 1 d t ∨ (d = 0 ∧ okB 0 d t)) ∧ row = flatB d t ∧ usedN (put0 l r fu).1 = (hsB d t).length ∧ BigA (put0 l r fu).1 (K + 1) := by
  rcases H.tree with ⟨rfl, rfl, h3, rfl⟩ | ⟨rfl, t, h1, h2, h3, h4, h5, h6⟩
  · refine ⟨.mk (put0 l r false).2 [] [], rfl, ?_, by simp [hsB], .inr ⟨rfl, by simp [okB, BT.ks]⟩, rfl, ?_, ?_⟩
    · show atA (rmake l ⟨true, [], [], []⟩).1 (rmake l ⟨true, [], [], []⟩).2 = _
      rw [make_at, if_pos rfl]; rfl
    · show usedN (rmake l ⟨true, [], [], []⟩).1 = _
      rw [make_used, h3]; rfl
    · exact H.big.make ⟨by simp, by simp, by simp⟩
  · exact ⟨t, h1, h2, h3, .inl h4, h5, h6, H.big.mono (by omega)⟩
theorem put_okW (H : TabI l r fu ln row K d) (hK : K + d + 2 ≤ 1000000) : insOk d (put0 l r fu).1 (put0 l r fu).2 x := by
  obtain ⟨t, h1, h2, h3, h4, h5, h6, h7⟩ := put0_ok H
  rw [← h1]
  rcases h4 with h4 | ⟨rfl, h4⟩
  · exact ins_okW d h2 h3 h4 (.inl (by omega)) (by omega) (h5 ▸ H.up) h7 (by omega)
  · exact ins_okW 0 h2 h3 h4 (.inr rfl) (by omega) (h5 ▸ H.up) h7 (by omega)
theorem put_tab (H : TabI l r fu ln row K d) : ∃ d', TabI (putT d l r fu ln x).1.1 (putT d l r fu ln x).1.2 true (putT d l r fu ln x).2.1 (putL row x) (K + d + 3) d' ∧ (putT d l r fu ln x).2.2 = getL row x.key := by
  obtain ⟨t, h1, h2, h3, h4, h5, h6, h7⟩ := put0_ok H
  have hI : PutB (put0 l r fu).1 (insF d (put0 l r fu).1 t.h x).1 1 d (hsB d t) t.h (insF d (put0 l r fu).1 t.h x).2.2 (putL (flatB d t) x) (K + 1 + d + 1) ∧ (insF d (put0 l r fu).1 t.h x).2.1 = getL (flatB d t) x.key := by
    rcases h4 with h4 | ⟨rfl, h4⟩
    · exact ins_ok d (lo := 1) h2 h3 h4 (.inl (by omega)) (by omega) (h5 ▸ H.up) h7
    · exact ins_ok 0 (lo := 0) h2 h3 h4 (.inr rfl) (by omega) (h5 ▸ H.up) h7
  obtain ⟨hp, hg⟩ := hI
  rw [h1, ← h5] at hp hg
  unfold putT
  simp only
  have hlen : (if (insF d (put0 l r fu).1 (put0 l r fu).2 x).2.1.2 = true then ln else ln + 1) = ((putL row x).length : Int) := by
    rw [hg, getL_len H.up, H.len]; split <;> simp_all
  obtain ⟨t', p1, p2, p3, p4, p5⟩ := hp.parts
  rcases p5 with ⟨q0, q1, q2, q3⟩ | ⟨u, t2, q0, q1, q2, q3, q4, q5, q6, q7, q8⟩
  · refine ⟨d, ⟨putL_up H.up, hlen, ?_, .inr ⟨rfl, t', ?_, ?_, p4, q1, q2, ?_⟩⟩, hg⟩
    · unfold putU; rw [q0]; exact hp.big.mono (by omega)
    · unfold putU; rw [q0]; exact p1
    · unfold putU; rw [q0]; exact p2
    · unfold putU; rw [q0]; simp only; omega
  · -- a new root
    generalize hq : insF d (put0 l r fu).1 (put0 l r fu).2 x = q at *
    have hU : putU q (put0 l r fu).2 = rmake q.1 (nodeB (d + 1) (.mk hdZero [u] [t', t2])) := by
      unfold putU; rw [q0]; simp [nodeB, BT.ks, BT.ts, p1]
    rw [hU]
    have e1 := make_at (l := q.1) (m := nodeB (d + 1) (.mk hdZero [u] [t', t2])) (h' := (rmake q.1 (nodeB (d + 1) (.mk hdZero [u] [t', t2]))).2)
    rw [if_pos rfl] at e1
    have e2 := make_none (l := q.1) (m := nodeB (d + 1) (.mk hdZero [u] [t', t2]))
    have hs : SameA q.1 (rmake q.1 (nodeB (d + 1) (.mk hdZero [u] [t', t2]))).1 [] := SameA.make
    have hb := hp.big.make (m := nodeB (d + 1) (.mk hdZero [u] [t', t2])) ⟨by simp [nodeB, BT.ks], by simp [nodeB, BT.ts], by simp [nodeB, BT.ks]⟩
    have hu := make_used (l := q.1) (m := nodeB (d + 1) (.mk hdZero [u] [t', t2]))
    generalize rmake q.1 (nodeB (d + 1) (.mk hdZero [u] [t', t2])) = m at e1 e2 hs hb hu ⊢
    have n1 : m.2 ∉ hsB d t' := fun hm => by obtain ⟨n, hn⟩ := p2.each _ hm; rw [e2] at hn; cases hn
    have n2 : m.2 ∉ hsB d t2 := fun hm => by obtain ⟨n, hn⟩ := q3.each _ hm; rw [e2] at hn; cases hn
    refine ⟨d + 1, ⟨putL_up H.up, hlen, hb.mono (by omega), .inr ⟨rfl, .mk m.2 [u] [t', t2], rfl, ?_, ?_, ?_, ?_, ?_⟩⟩, hg⟩
    · refine holds_mk.2 ⟨e1, fun s hsm => ?_⟩
      simp only [List.mem_cons, List.not_mem_nil, or_false] at hsm
      rcases hsm with rfl | rfl
      · exact p2.same hs fun _ _ h => by cases h
      · exact q3.same hs fun _ _ h => by cases h
    · rw [hsB_mk]
      simp only [hsK, List.flatMap_cons, List.flatMap_nil, List.append_nil]
      refine List.nodup_cons.2 ⟨by simp [n1, n2], List.nodup_append.2 ⟨p4, q6, fun a ha b hb e => q7 a ha (e ▸ hb)⟩⟩
    · refine ok_mk.2 ⟨by simp, by simp, by simp, fun s hsm => ?_⟩
      simp only [List.mem_cons, List.not_mem_nil, or_false] at hsm
      rcases hsm with rfl | rfl
      · exact q1
      · exact q2
    · rw [q4]; simp [flatB, BT.ks, BT.ts, weave]
    · rw [hu, hsB_mk]; simp only [hsK, List.flatMap_cons, List.flatMap_nil, List.append_nil, List.length_cons, List.length_append]; omega
end
end Tp
namespace Tp
open Go
def delT (d : Nat) (l : List RPlace) (r : Handle) (fu : Bool) (ln : Int) (k : ByteArray) : (List RPlace × Handle) × Bool × Int :=
  let l1 := remF d l r k
  let n := (rget l1 r).1
  if n.keys.length = 0 then (((rfree l1 [r]).1, if n.leaf then r else n.kids.getD 0 hdZero), !n.leaf, ln - 1) else ((l1, r), fu, ln - 1)
section
variable {l l' : List RPlace} {d lo K : Nat} {r h : Handle} {fu : Bool} {ln : Int} {row : List THit} {x : THit} {t : BT} {k : ByteArray}
theorem tab_full (H : TabI l r fu ln row K d) (hg : (getL row k).2 = true) : fu = true ∧ ∃ t, t.h = r ∧ HoldsB l d t ∧ (hsB d t).Nodup ∧ okB 1 d t ∧ row = flatB d t ∧ usedN l = (hsB d t).length := by
  rcases H.tree with ⟨_, rfl, _⟩ | h
  · cases hg
  · exact h
theorem del_okW (H : TabI l r fu ln row K d) (hg : (getL row k).2 = true) (hK : K ≤ 1000000) : remOk d l r k := by
  obtain ⟨_, t, h1, h2, h3, h4, h5, h6⟩ := tab_full H hg
  rw [← h1]
  exact rem_okW d h2 h3 h4 (by omega) (h5 ▸ H.up) H.big hK (h5 ▸ getL_mem hg)
theorem del_tab (H : TabI l r fu ln row K d) (hg : (getL row k).2 = true) : ∃ d', TabI (delT d l r fu ln k).1.1 (delT d l r fu ln k).1.2 (delT d l r fu ln k).2.1 (delT d l r fu ln k).2.2 (delL row k) K d' := by
  obtain ⟨rfl, t, h1, h2, h3, h4, h5, h6⟩ := tab_full H hg
  have R := rem_ok d (k := k) (lo := 1) h2 h3 h4 (by omega) (h5 ▸ H.up) H.big (h5 ▸ getL_mem hg)
  rw [h1, ← h5] at R
  obtain ⟨t', p1, p2, p3, p4, p5, p6, p7⟩ := R.parts
  have hln : ln - 1 = ((delL row k).length : Int) := by
    have := delL_len H.up hg
    rw [H.len]; omega
  have hb := R.big
  unfold delT
  simp only
  generalize remF d l r k = l1 at *
  obtain ⟨h', ks, ts⟩ := t'
  have p1 : h' = r := p1
  subst p1
  have e := (holds_mk.1 p2).1
  have hgt : (rget l1 h').1 = nodeB d (.mk h' ks ts) := by rw [atA_get e]
  rw [hgt]
  simp only [nodeB_keys, List.length_map, nodeB_leaf]
  by_cases h0 : ks.length = 0
  · rw [if_pos h0]
    have hks := List.eq_nil_of_length_eq_zero h0
    subst hks
    have hf := free_used e
    cases d with
    | zero =>
      refine ⟨0, ⟨delL_up H.up, hln, hb.free e, .inl ⟨rfl, p6, ?_, rfl⟩⟩⟩
      simp [hsB] at p7 h6
      have : (hsB 0 t).length = 1 := rfl
      simp only
      omega
    | succ d =>
      obtain ⟨o1, o2, o3, o4⟩ := ok_mk.1 p5
      obtain ⟨c, rfl⟩ : ∃ c, ts = [c] := by
        match ts, o3 with
        | [c], _ => exact ⟨c, rfl⟩
      rw [hsB_mk] at p4 p7
      simp only [hsK, List.flatMap_cons, List.flatMap_nil, List.append_nil, List.length_cons] at p4 p7
      obtain ⟨n1, n2⟩ := List.nodup_cons.1 p4
      have hs : SameA l1 (rfree l1 [h']).1 [h'] := SameA.free e (by simp)
      have hc := ((holds_mk.1 p2).2 c (by simp)).same hs fun q hq hm => by rw [List.mem_singleton.1 hm] at hq; exact n1 hq
      refine ⟨d, ⟨delL_up H.up, hln, hb.free e, .inr ⟨by simp, c, ?_, hc, n2, okB_low (o4 c (by simp)) (by omega), ?_, ?_⟩⟩⟩
      · simp [nodeB, BT.ts, List.getD]
      · rw [p6]; simp [flatB, BT.ks, BT.ts, weave]
      · simp only; omega
  · rw [if_neg h0]
    refine ⟨d, ⟨delL_up H.up, hln, hb, .inr ⟨rfl, .mk h' ks ts, rfl, p2, p4, ?_, p6, ?_⟩⟩⟩
    · obtain ⟨o1, o2, o3⟩ := ok_mk.1 p5
      exact ok_mk.2 ⟨by omega, o2, o3⟩
    · simp only; omega
theorem tab_new : TabI [] hdZero false 0 [] 0 0 := ⟨.nil, rfl, BigA.nil, .inl ⟨rfl, rfl, rfl, rfl⟩⟩
theorem tab_deep (H : TabI l r fu ln row K d) : d ≤ row.length := by
  rcases H.tree with ⟨_, _, _, rfl⟩ | ⟨_, t, h1, h2, h3, h4, h5, h6⟩
  · exact Nat.zero_le _
  · have := flat_deep h4 (by omega); rw [h5]; omega
end
end Tp
namespace Tp
open Go
def hitOf (n : Nd) (i : Nat) : THit := ⟨n.keys.getD i default, n.vals.getD i 0⟩
def leastT : Nat → List RPlace → Handle → (ByteArray → Bool) → THit × Bool → THit × Bool
  | d, l, h, p, b =>
    let n := (rget l h).1
    let i := n.keys.findIdx p
    let b' := if i < n.keys.length then (hitOf n i, true) else b
    if n.leaf then b' else match d with
      | 0 => b'
      | d + 1 => leastT d l (n.kids.getD i hdZero) p b'
def endI (ks : List ByteArray) (p : ByteArray → Bool) : Nat := ks.length - ks.reverse.findIdx p
def greatT : Nat → List RPlace → Handle → (ByteArray → Bool) → THit × Bool → THit × Bool
  | d, l, h, p, b =>
    let n := (rget l h).1
    let i := endI n.keys p
    let b' := if 0 < i then (hitOf n (i - 1), true) else b
    if n.leaf then b' else match d with
      | 0 => b'
      | d + 1 => greatT d l (n.kids.getD i hdZero) p b'
def firstL (l : List THit) (p : ByteArray → Bool) (b : THit × Bool) : THit × Bool := match l.find? (fun a => p a.key) with | some a => (a, true) | none => b
def lastL (l : List THit) (p : ByteArray → Bool) (b : THit × Bool) : THit × Bool := firstL l.reverse p b
section
variable {l : List RPlace} {d lo : Nat} {p : ByteArray → Bool} {P Q R ks : List THit} {b : THit × Bool} {z : THit}
theorem firstL_skip (h : ∀ a, a ∈ P → p a.key = false) : firstL (P ++ Q) p b = firstL Q p b := by
  unfold firstL
  rw [List.find?_append, List.find?_eq_none.2 (fun a ha => by simp [h a ha])]
  rfl
theorem firstL_app : firstL (P ++ Q) p b = firstL P p (firstL Q p b) := by
  unfold firstL
  rw [List.find?_append]
  cases List.find? (fun a => p a.key) P <;> rfl
theorem firstL_hit (h : p z.key = true) : firstL (z :: Q) p b = (z, true) := by unfold firstL; simp [h]
theorem firstL_nil : firstL [] p b = b := rfl
theorem firstL_none (h : ∀ a, a ∈ P → p a.key = false) : firstL P p b = b := by have := firstL_skip (Q := []) (b := b) h; rwa [List.append_nil] at this
def upP (p : ByteArray → Bool) : Prop := ∀ x y, sLt x y = true → p x = true → p y = true
def downP (p : ByteArray → Bool) : Prop := ∀ x y, sLt x y = true → p y = true → p x = true
theorem hitOf_node {h : Handle} {ts : List BT} {i : Nat} (hz : ks[i]? = some z) : hitOf (nodeB d (.mk h ks ts)) i = z := by
  unfold hitOf; simp [nodeB, BT.ks, List.getD, hz]
theorem split_first (ks : List THit) (p : ByteArray → Bool) : ∃ P Q, ks = P ++ Q ∧ P.length = (ks.map THit.key).findIdx p ∧ (∀ a, a ∈ P → p a.key = false) ∧ (∀ z R, Q = z :: R → p z.key = true) := by
  induction ks with
  | nil => exact ⟨[], [], rfl, rfl, (fun _ h => by cases h), (fun _ _ h => by cases h)⟩
  | cons a ks ih =>
    cases ha : p a.key with
    | true => exact ⟨[], a :: ks, rfl, by simp [List.findIdx_cons, ha], (fun _ h => by cases h), (fun z R h => by cases h; exact ha)⟩
    | false =>
      obtain ⟨P, Q, h1, h2, h3, h4⟩ := ih
      refine ⟨a :: P, Q, by rw [h1]; rfl, by simp [List.findIdx_cons, ha, h2], fun x hx => ?_, h4⟩
      rcases List.mem_cons.1 hx with rfl | hx
      · exact ha
      · exact h3 x hx
theorem least_ok (hp : upP p) : ∀ {d lo : Nat} {t : BT} {b : THit × Bool}, HoldsB l d t → okB lo d t → upT (flatB d t) → leastT d l t.h p b = firstL (flatB d t) p b := by
  intro d
  induction d with
  | zero =>
    intro lo t b H ho hu
    obtain ⟨h, ks, ts⟩ := t
    have hg : (rget l h).1 = nodeB 0 (.mk h ks ts) := by rw [atA_get (holds_mk.1 H).1]
    unfold leastT
    simp only [BT.h, hg, nodeB_keys, nodeB_leaf, List.length_map, beq_self_eq_true, if_true]
    obtain ⟨P, Q, rfl, hP, h3, h4⟩ := split_first ks p
    rw [← hP]
    show _ = firstL (P ++ Q) p b
    rw [firstL_skip h3]
    cases Q with
    | nil => rw [if_neg (by simp)]; rfl
    | cons z R => rw [if_pos (by simp), hitOf_node (z := z) (by simp), firstL_hit (h4 z R rfl)]
  | succ d ih =>
    intro lo t b H ho hu
    obtain ⟨h, ks, ts⟩ := t
    have hg : (rget l h).1 = nodeB (d + 1) (.mk h ks ts) := by rw [atA_get (holds_mk.1 H).1]
    obtain ⟨o1, o2, o3⟩ := ok_mk.1 ho
    have hd0 : ((d + 1 == 0) = true) ↔ False := by simp
    unfold leastT
    simp only [BT.h, hg, nodeB_keys, nodeB_leaf, List.length_map, hd0, if_false]
    obtain ⟨P, Q, rfl, hP, h3, h4⟩ := split_first ks p
    obtain ⟨A, c, B, rfl, hA, hB, hf⟩ := flat_at (h := h) o3
    have hc := kid_at (holds_mk.1 H).1 (i := P.length) hA
    rw [hg] at hc
    rw [← hP, hc, hf]
    rw [hf] at hu
    have hpre : ∀ a, a ∈ preW (A.map (flatB d)) P → p a.key = false := by
      rcases List.eq_nil_or_concat P with rfl | ⟨P', z, rfl⟩
      · have : A = [] := List.eq_nil_of_length_eq_zero (by simpa using hA)
        subst this; intro a ha; simp [preW] at ha
      · rw [List.concat_eq_append] at *
        have hz := h3 z (by simp)
        obtain ⟨A', a', rfl⟩ : ∃ A' a', A = A' ++ [a'] := ⟨A.dropLast, A.getLast (by rintro rfl; simp at hA), (List.dropLast_concat_getLast _).symm⟩
        have hA' : A'.length = P'.length := by simpa using hA
        rw [List.map_append, List.map_cons, List.map_nil, preW_snoc (by simpa using hA'), ← List.append_assoc] at hu ⊢
        have hu2 := (upT_app.1 (upT_app.1 hu).1).1
        intro a ha
        rcases List.mem_append.1 ha with ha | ha
        · have hlt := (upT_app.1 hu2).2.2 a ha z (by simp)
          cases hpa : p a.key with
          | false => rfl
          | true => rw [hp _ _ hlt hpa] at hz; cases hz
        · rw [List.mem_singleton.1 ha]; exact hz
    have hcu : upT (flatB d c) := mid_up hu
    rw [ih ((holds_mk.1 H).2 c (by simp)) (o3.2 c (by simp)) hcu, List.append_assoc, firstL_skip hpre, firstL_app]
    congr 1
    cases Q with
    | nil =>
      have : B = [] := List.eq_nil_of_length_eq_zero (by simpa using hB)
      subst this
      rw [if_neg (by simp)]; rfl
    | cons z R =>
      obtain ⟨b', B', rfl⟩ : ∃ b' B', B = b' :: B' := by cases B with | nil => simp at hB | cons b' B' => exact ⟨b', B', rfl⟩
      rw [if_pos (by simp), hitOf_node (z := z) (by simp), List.map_cons, sufW_cons, firstL_hit (h4 z R rfl)]
theorem lastL_app : lastL (P ++ Q) p b = lastL Q p (lastL P p b) := by unfold lastL; rw [List.reverse_append, firstL_app]
theorem lastL_none (h : ∀ a, a ∈ P → p a.key = false) : lastL P p b = b := firstL_none fun a ha => h a (List.mem_reverse.1 ha)
theorem lastL_hit (h : p z.key = true) : lastL (P ++ [z]) p b = (z, true) := by unfold lastL; rw [List.reverse_append]; exact firstL_hit h
theorem split_last (ks : List THit) (p : ByteArray → Bool) : ∃ P Q, ks = P ++ Q ∧ P.length = endI (ks.map THit.key) p ∧ (∀ a, a ∈ Q → p a.key = false) ∧ (∀ R z, P = R ++ [z] → p z.key = true) := by
  obtain ⟨P, Q, h1, h2, h3, h4⟩ := split_first ks.reverse p
  refine ⟨Q.reverse, P.reverse, ?_, ?_, fun a ha => h3 a (List.mem_reverse.1 ha), fun R z h => ?_⟩
  · have := congrArg List.reverse h1; rwa [List.reverse_reverse, List.reverse_append] at this
  · unfold endI
    rw [← List.map_reverse, ← h2, List.length_reverse, List.length_map]
    have := congrArg List.length h1; simp at this; omega
  · have := congrArg List.reverse h; rw [List.reverse_reverse, List.reverse_append] at this
    exact h4 z _ this
theorem great_ok (hp : downP p) : ∀ {d lo : Nat} {t : BT} {b : THit × Bool}, HoldsB l d t → okB lo d t → upT (flatB d t) → greatT d l t.h p b = lastL (flatB d t) p b := by
  intro d
  induction d with
  | zero =>
    intro lo t b H ho hu
    obtain ⟨h, ks, ts⟩ := t
    have hg : (rget l h).1 = nodeB 0 (.mk h ks ts) := by rw [atA_get (holds_mk.1 H).1]
    unfold greatT
    simp only [BT.h, hg, nodeB_keys, nodeB_leaf, beq_self_eq_true, if_true]
    obtain ⟨P, Q, rfl, hP, h3, h4⟩ := split_last ks p
    rw [← hP]
    show _ = lastL (P ++ Q) p b
    rw [lastL_app, lastL_none h3]
    rcases List.eq_nil_or_concat P with rfl | ⟨R, z, rfl⟩
    · rw [if_neg (by simp)]; rfl
    · rw [List.concat_eq_append] at *
      rw [if_pos (by simp), hitOf_node (z := z) (by simp), lastL_hit (h4 R z rfl)]
  | succ d ih =>
    intro lo t b H ho hu
    obtain ⟨h, ks, ts⟩ := t
    have hg : (rget l h).1 = nodeB (d + 1) (.mk h ks ts) := by rw [atA_get (holds_mk.1 H).1]
    obtain ⟨o1, o2, o3⟩ := ok_mk.1 ho
    have hd0 : ((d + 1 == 0) = true) ↔ False := by simp
    unfold greatT
    simp only [BT.h, hg, nodeB_keys, nodeB_leaf, hd0, if_false]
    obtain ⟨P, Q, rfl, hP, h3, h4⟩ := split_last ks p
    obtain ⟨A, c, B, rfl, hA, hB, hf⟩ := flat_at (h := h) o3
    have hc := kid_at (holds_mk.1 H).1 (i := P.length) hA
    rw [hg] at hc
    rw [← hP, hc, hf]
    rw [hf] at hu
    have hsuf : ∀ a, a ∈ sufW Q (B.map (flatB d)) → p a.key = false := by
      cases Q with
      | nil => intro a ha; simp [sufW] at ha
      | cons z R =>
        obtain ⟨b', B', rfl⟩ : ∃ b' B', B = b' :: B' := by cases B with | nil => simp at hB | cons b' B' => exact ⟨b', B', rfl⟩
        have hz := h3 z (by simp)
        rw [List.map_cons, sufW_cons] at hu ⊢
        have hu2 := upT_cons.1 (upT_app.1 hu).2.1
        intro a ha
        rcases List.mem_cons.1 ha with rfl | ha
        · exact hz
        · cases hpa : p a.key with
          | false => rfl
          | true => rw [hp _ _ (hu2.1 a ha) hpa] at hz; cases hz
    have hcu : upT (flatB d c) := mid_up hu
    rw [ih ((holds_mk.1 H).2 c (by simp)) (o3.2 c (by simp)) hcu, lastL_app, lastL_none hsuf, lastL_app]
    congr 1
    rcases List.eq_nil_or_concat P with rfl | ⟨R, z, rfl⟩
    · have : A = [] := List.eq_nil_of_length_eq_zero (by simpa using hA)
      subst this
      rw [if_neg (by simp)]; rfl
    · rw [List.concat_eq_append] at *
      obtain ⟨A', a', rfl⟩ : ∃ A' a', A = A' ++ [a'] := ⟨A.dropLast, A.getLast (by rintro rfl; simp at hA), (List.dropLast_concat_getLast _).symm⟩
      have hA' : A'.length = R.length := by simpa using hA
      rw [if_pos (by simp), hitOf_node (z := z) (by simp), List.map_append, List.map_cons, List.map_nil, preW_snoc (by simpa using hA'), ← List.append_assoc, lastL_hit (h4 R z rfl)]
end
end Tp
namespace Tp
open Go
structure TPl where
  depth : Int
  leaf : Bool
  keys : List ByteArray
deriving Inhabited
def placesB : Nat → BT → Int → List TPl
  | 0, t, q => [⟨q, true, t.ks.map THit.key⟩]
  | d + 1, t, q => ⟨q, false, t.ks.map THit.key⟩ :: t.ts.flatMap fun c => placesB d c (q + 1)
end Tp
set_option maxRecDepth 100000
namespace Go.Proofs
open Go Tp
theorem Try.en61 : Enters Try.prog 61 := fun _ _ => by kernel_rfl
theorem tab_new {G : Nat → Prop} {w : World}    (M : Mem G (fun _ => False) w [] [] w) : Rets Try.prog 30 #[] w fun r w' => ∃ (tb' : Nat) (ab' : Nat) (S' : Nat → Prop), r = (vP tb') ∧ Mem G (fun _ => False) w [bk tb' #[(vP ab'), (vI 0), (vI 0), (vB false), (vI 0)] 94, arenaC 143 145 S' ab' ([] : List RPlace)] [] w' := by
 refine Rets.enter 4 _ Try.func30 rfl Try.ntmps30 Try.results30 (by simp) ?_
 refine wR (wA vN (WL.nil (wR ?_)))
 refine WL.callX rfl (ar_new  (M.enterW0 trivial)) (CallsF.func Try.en61 rfl) ?_
 rintro _ w3 ⟨ab1, S2, rfl, m⟩
 replace M := M.leaveW0 m
 clear m
 refine wP (Value.agg #[(vP ab1), (vI 0), (vI 0), (vB false), (vI 0)]) ?_
 refine WL.box (v := (Value.agg #[(vP ab1), (vI 0), (vI 0), (vB false), (vI 0)])) (c := #[(vP ab1), (vI 0), (vI 0), (vB false), (vI 0)]) M rfl rfl rfl (fun b4 w5 hb4 M => ?_)
 refine wA (vP b4) (WL.nil ?_)
 refine W.ret ?_
 refine ⟨.inl rfl, (vP b4), ?_, ?_⟩
 · exact ⟨rfl, (Res.r1 (show RV _ _ _ (.tmp 0) (vP b4) from by exact rfl))⟩
 refine ⟨b4, ab1, S2, ?_, M.close [0, 1] rfl (by decide) trivial⟩
 rfl
end Go.Proofs
