/- Stores into slices of one's own; chunks that calls hand back. -/
import Derived.Test.YthihknbbibgchaaTrGen
namespace Tp
open Go

def splice (cs : List Value) (o : Nat) (new : List Value) : List Value := cs.take o ++ new ++ cs.drop (o + new.length)
theorem splice_length {cs new : List Value} {o : Nat} (h : o + new.length ≤ cs.length) : (splice cs o new).length = cs.length := by
  simp [splice]; omega
theorem put_toList : ∀ (new : List Value) (c : Array Value) (o : Nat), o + new.length ≤ c.size → (Step.put c o new).toList = splice c.toList o new := by
  intro new
  induction new with
  | nil => intro c o _; simp [Step.put, splice]
  | cons v new ih =>
    intro c o h
    simp only [List.length_cons] at h
    rw [Step.put, ih _ _ (by simp; omega)]
    simp only [splice, Array.toList_setIfInBounds, List.length_cons]
    have hlt : o < c.toList.length := by simp; omega
    have h1 : List.take (o + 1) (c.toList.set o v) = c.toList.take o ++ [v] := by
      rw [List.take_succ_eq_append_getElem (by simpa using hlt), List.getElem_set_self, List.take_set_of_le (Nat.le_refl _)]
    have h2 : List.drop (o + 1 + new.length) (c.toList.set o v) = c.toList.drop (o + (new.length + 1)) := by
      rw [List.drop_set_of_lt (by omega)]
      congr 1; omega
    rw [h1, h2]
    simp
theorem take_splice {cs new : List Value} {o n : Nat} (h : o + new.length ≤ n) (hn : n ≤ cs.length) : (splice cs o new).take n = splice (cs.take n) o new := by
  simp only [splice, List.take_append, List.take_take, List.length_append, List.length_take]
  rw [List.take_of_length_le (l := new) (by omega), List.drop_take]
  congr 1
  · congr 2; omega
  · congr 1; omega

section
variable {P : Program} {n : Nat} {Q : Exit → Env → World → Prop} {ρ : Env} {w w0 : World} {ops : Array Oper} {rest : List Oper} {F X : Nat → Prop} {L L' : List Chunk} {R : List (World → Prop)}
variable {d : Option Nat} {ty : TypeId} {pos : String} {aft : Array Edge} {g : Option (Nat × Bool)}

theorem own_store {e : TypeId} {size : Nat} {v : Value} {m : Nat} {cs : List Value} {new : List Value} {o : Nat} (h : w.ownsRow 0 e size v m cs) (ho : o + new.length ≤ m * size) (hn : 0 < m) :
    ∃ cur, w.heap[sBlk v]? = some (.cells cur e (0, 0)) ∧ sOff v = 0 ∧ o + new.length ≤ cur.size ∧ v.ownBlock = some (sBlk v) ∧
      (World.blkSet w (sBlk v) (.cells (Step.put cur o new) e)).ownsRow 0 e size v m (splice cs o new) := by
  rcases h.2 with ⟨_, rfl⟩ | ⟨g, cap, cur, rfl, h1, h2, h3, h4, h5, h6⟩
  · omega
  · have hms : m * size ≤ cur.size := by rw [h5]; exact Nat.mul_le_mul_right _ h3
    refine ⟨cur, h2, rfl, by omega, rfl, ?_, .inr ⟨g, cap, _, rfl, h1, blkSet_at _ (lt_of_blk h2), h3, h4, by rw [Step.put_size]; exact h5, ?_⟩⟩
    · rw [splice_length (by rw [h.1]; exact ho)]; exact h.1
    · rw [put_toList _ _ _ (by omega), take_splice ho (by simpa using hms), h6]

end

/-! ## Flat elements -/
section
variable {α : Type} {enc : α → List Value} {size : Nat}
theorem take_flatMap (he : ∀ x, (enc x).length = size) (xs : List α) (i : Nat) : (xs.flatMap enc).take (i * size) = (xs.take i).flatMap enc := by
  induction xs generalizing i with
  | nil => simp
  | cons y xs ih =>
    cases i with
    | zero => simp
    | succ i =>
      rw [List.flatMap_cons, List.take_succ_cons, List.flatMap_cons, Nat.add_mul, Nat.one_mul, Nat.add_comm (i * size), ← he y, List.take_length_add_append, he y, ih]
theorem splice_flat (he : ∀ x, (enc x).length = size) {xs : List α} {j k : Nat} {x x' : α} {new : List Value} (hx : xs[j]? = some x) (hk : k + new.length ≤ size) (h : splice (enc x) k new = enc x') :
    splice (xs.flatMap enc) (j * size + k) new = (xs.set j x').flatMap enc := by
  obtain ⟨hj, hxe⟩ := List.getElem?_eq_some_iff.1 hx
  have e : xs = xs.take j ++ x :: xs.drop (j + 1) := by
    rw [← hxe, ← List.drop_eq_getElem_cons hj, List.take_append_drop]
  have hlen : (xs.take j).length = j := by simp; omega
  have e2 : xs.set j x' = xs.take j ++ x' :: xs.drop (j + 1) := by
    rw [List.set_eq_take_append_cons_drop, if_pos hj]
  rw [e2]
  conv => lhs; rw [e]
  simp only [List.flatMap_append, List.flatMap_cons]
  have hl : ((xs.take j).flatMap enc).length = j * size := by rw [length_flatMap he, hlen]
  rw [← h]
  simp only [splice]
  rw [← hl, List.take_length_add_append, List.append_assoc, List.append_assoc]
  have hd : ((xs.take j).flatMap enc ++ (enc x ++ (xs.drop (j + 1)).flatMap enc)).drop (((xs.take j).flatMap enc).length + k + new.length) = (enc x ++ (xs.drop (j + 1)).flatMap enc).drop (k + new.length) := by
    rw [Nat.add_assoc, List.drop_append]
    simp
  have hx1 := he x
  rw [hd, List.take_append_of_le_length (by omega), List.drop_append_of_le_length (by omega)]
  simp [List.append_assoc]
end
theorem take_snoc {α : Type} {l : List α} {i : Nat} {x : α} (h : l[i]? = some x) : l.take i ++ [x] = l.take (i + 1) := by
  obtain ⟨h1, h2⟩ := List.getElem?_eq_some_iff.1 h
  rw [List.take_succ_eq_append_getElem h1, h2]
/-! ## Elements with slices inside -/
section
variable {α : Type} {T : Ty α} {cs new : List Value} {xs : List α} {x : α} {w : World}
theorem repL_snoc (h : RepL T cs xs w) (hx : T.rep new x w) : RepL T (cs ++ new) (xs ++ [x]) w := by
  have hl := T.len _ _ _ hx
  refine ⟨by rw [List.length_append, h.1, hl, List.length_append, List.length_singleton, Nat.add_mul, Nat.one_mul], fun i y hy => ?_⟩
  rcases Nat.lt_or_ge i xs.length with hi | hi
  · rw [List.getElem?_append_left hi] at hy
    have h2 := h.2 i y hy
    have : (i + 1) * T.size ≤ cs.length := by rw [h.1]; exact Nat.mul_le_mul_right _ hi
    rw [Nat.add_mul, Nat.one_mul] at this
    rw [List.drop_append_of_le_length (by omega), List.take_append_of_le_length (by rw [List.length_drop]; omega)]
    exact h2
  · rw [List.getElem?_append_right hi] at hy
    have : i = xs.length := by
      rcases Nat.lt_or_ge (i - xs.length) 1 with h' | h'
      · omega
      · rw [List.getElem?_eq_none (by simpa using h')] at hy; cases hy
    subst this
    simp at hy
    subst hy
    rw [← h.1, List.drop_left, List.take_of_length_le (by omega)]
    exact hx
end

/-! ## Arithmetic -/
theorem tmod_bounds {a b : Int} (h : 0 < b) : -b < a.tmod b ∧ a.tmod b < b := ⟨Int.lt_tmod_of_pos a h, Int.tmod_lt_of_pos a h⟩
theorem Step.rem {P : Program} {ρ : Env} {w : World} {ty t ty' : TypeId} {x y : Operand} {k : IntKind} {a b : Int} (hx : ρ.ev x = .int k a) (hy : ρ.ev y = .int k b) (hb : b ≠ 0) : Step P (.binOp .rem t x y ty') ty ρ w (.int k (a.tmod b)) w := by
  intro d pos aft g
  left
  simp [execOp, eqGuard, hx, hy, binOp, Op.intDiv, hb]
theorem Step.quo {P : Program} {ρ : Env} {w : World} {ty t ty' : TypeId} {x y : Operand} {k : IntKind} {a b c : Int} (hx : ρ.ev x = .int k a) (hy : ρ.ev y = .int k b) (hb : b ≠ 0) (hc : k.wrap (a.tdiv b) = c) : Step P (.binOp .quo t x y ty') ty ρ w (.int k c) w := by
  intro d pos aft g
  left
  simp [execOp, eqGuard, hx, hy, binOp, Op.intDiv, hb, hc]

/-! ## Chunks handed back by a call -/
namespace Mem
variable {F X : Nat → Prop} {w0 w w' : World} {L : List Chunk} {R : List (World → Prop)}
/-- what the function was handed beside its memory: facts on blocks that it does not turn -/
theorem ext {G : Nat → Prop} (M : Mem F X w0 L R w) (hG : ∀ b, G b → ¬ X b) {r : World → Prop} (h : Sh G r w0) : Sh G r w :=
  h.keep M.mod.size (fun b hb hlt => M.mod.block b hlt (hG b hb)) fun _ hb _ => hb
/-- some chunks have been turned by a call, and are lost -/
theorem lose1 {c : Chunk} (M : Mem F X w0 L R w) (i : Nat) (hi : L[i]? = some c) (h : Mod c.foot w w') : Mem F X w0 (L.eraseIdx i) R w' := by
  have hcm : c ∈ L := List.mem_of_getElem? hi
  have hs : (L.eraseIdx i).Sublist L := List.eraseIdx_sublist ..
  have hne : ∀ d, d ∈ L.eraseIdx i → ∀ b, d.foot b → ¬ c.foot b := by
    intro d hd b hb hc
    obtain ⟨j, hj⟩ := List.getElem?_of_mem hd
    rw [List.getElem?_eraseIdx] at hj
    split at hj
    · exact M.disj_ne hj hi (by omega) b hb hc
    · exact M.disj_ne hj hi (by omega) b hb hc
  refine ⟨M.mod.trans h fun b hb hx => (M.in_ c hcm b hx).resolve_right (by omega), fun d hd => ?_, M.disj.sublist hs, fun d hd => M.in_ d (hs.subset hd), fun r hr => ?_⟩
  · exact (M.ok d (hs.subset hd)).keep h.size fun b hb => h.block b ((M.ok d (hs.subset hd)).lt b hb) (hne d hd b hb)
  · exact (M.sh r hr).keep h.size (fun b hb hlt => h.block b hlt (hb.2 c hcm)) fun b hb _ => ⟨hb.1, fun d hd => hb.2 d (hs.subset hd)⟩
end Mem
end Tp

namespace Tp
open Go
section
variable {P : Program} {n : Nat} {Q : Exit → Env → World → Prop} {ρ : Env} {w w0 : World} {ops : Array Oper} {rest : List Oper} {F X : Nat → Prop} {L L' : List Chunk} {R : List (World → Prop)}
variable {d : Option Nat} {op : Op} {ty : TypeId} {pos : String} {aft : Array Edge} {g : Option (Nat × Bool)}
end
section
variable {P : Program} {ops : Array Oper} {ld mk : List Nat} {Q : Env → World → Prop} {i : Nat} {d : Option Nat} {op : Op} {ty : TypeId} {pos : String} {aft : Array Edge} {g : Option (Nat × Bool)}
  {rest : List Nat} {ρ : Env} {F X : Nat → Prop} {w0 : World} {Lp L L' : List Chunk} {Rp R : List (World → Prop)}
end
end Tp
