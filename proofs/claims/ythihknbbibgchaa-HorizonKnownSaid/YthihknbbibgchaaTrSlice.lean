/- Slices: shared ones that are read, own ones that are written. -/
import Derived.Test.YthihknbbibgchaaTrAny2
namespace Tp
open Go

def sBlk : Value → Nat
  | .slice (some a) _ _ => a.block
  | _ => 0
def sOff : Value → Nat
  | .slice (some a) _ _ => a.off
  | _ => 0

/-- The value is a slice of n elements, of so many cells each; cs are its cells. -/
def SlAt (size : Nat) (v : Value) (n : Nat) (cs : List Value) (w : World) : Prop :=
  ((∃ a, v = .slice a 0 0) ∧ n = 0 ∧ cs = []) ∨
  ∃ b o cap c e fz, v = .slice (some ⟨b, o, none⟩) n cap ∧ n ≤ cap ∧ cap ≤ maxLen ∧ w.heap[b]? = some (.cells c e fz) ∧ o + cap * size ≤ c.size ∧ cs.length = n * size ∧ ∀ j, j < n * size → c[o + j]? = cs[j]?

theorem SlAt.nil (size : Nat) (w : World) : SlAt size (.slice none 0 0) 0 [] w := .inl ⟨⟨_, rfl⟩, rfl, rfl⟩

/-- A type of values: so many cells, which read so. -/
structure Ty (α : Type) where
  size : Nat
  rep : List Value → α → World → Prop
  len : ∀ cs x w, rep cs x w → cs.length = size
/-- a type whose cells are known from what they tell -/
def Ty.flat {α : Type} (size : Nat) (enc : α → List Value) (h : ∀ x, (enc x).length = size) : Ty α := ⟨size, fun cs x _ => cs = enc x, fun cs x _ e => by rw [e]; exact h x⟩

/-- elements of a row of cells -/
def RepL {α : Type} (T : Ty α) (cs : List Value) (xs : List α) (w : World) : Prop :=
  cs.length = xs.length * T.size ∧ ∀ i x, xs[i]? = some x → T.rep ((cs.drop (i * T.size)).take T.size) x w
def RepS {α : Type} (T : Ty α) (v : Value) (xs : List α) (w : World) : Prop := ∃ cs, SlAt T.size v xs.length cs w ∧ RepL T cs xs w

section
variable {α : Type} {T : Ty α} {v : Value} {xs : List α} {w : World} {cs : List Value} {n size : Nat}

theorem SlAt.len (h : SlAt size v n cs w) : cs.length = n * size := by
  rcases h with ⟨_, rfl, rfl⟩ | ⟨_, _, _, _, _, _, _, _, _, _, _, h, _⟩
  · simp
  · exact h
theorem SlAt.le (h : SlAt size v n cs w) : n ≤ maxLen := by
  rcases h with ⟨_, rfl, rfl⟩ | ⟨_, _, _, _, _, _, _, h1, h2, _⟩
  · exact Nat.zero_le _
  · omega
theorem SlAt.value (h : SlAt size v n cs w) : ∃ a cap, v = .slice a n cap := by
  rcases h with ⟨⟨_, rfl⟩, rfl, rfl⟩ | ⟨b, o, cap, _, _, _, rfl, _⟩
  · exact ⟨_, _, rfl⟩
  · exact ⟨_, _, rfl⟩
theorem SlAt.cell (h : SlAt size v n cs w) (j : Nat) (hj : j < n * size) : w.cell? ⟨sBlk v, sOff v + j, none⟩ = cs[j]? := by
  rcases h with ⟨_, rfl, rfl⟩ | ⟨b, o, cap, c, e, fz, rfl, _, _, hb, _, _, hc⟩
  · simp at hj
  · rw [show sBlk (.slice (some ⟨b, o, none⟩) n cap) = b from rfl, show sOff (.slice (some ⟨b, o, none⟩) n cap) = o from rfl, cell_blk hb]
    exact hc j hj
theorem SlAt.base (h : SlAt size v n cs w) (hn : 0 < n) : ∃ cap, v = .slice (some ⟨sBlk v, sOff v, none⟩) n cap := by
  rcases h with ⟨_, rfl, rfl⟩ | ⟨b, o, cap, _, _, _, rfl, _⟩
  · simp at hn
  · exact ⟨cap, rfl⟩

theorem RepS.le (h : RepS T v xs w) : xs.length ≤ maxLen := let ⟨_, h, _⟩ := h; h.le
theorem RepS.nil (T : Ty α) (w : World) : RepS T (.slice none 0 0) [] w := ⟨[], SlAt.nil _ _, by simp [RepL]⟩

theorem mul_add_lt {i k n size : Nat} (hi : i < n) (hk : k < size) : i * size + k < n * size :=
  calc i * size + k < i * size + size := by omega
    _ = (i + 1) * size := by rw [Nat.add_mul, Nat.one_mul]
    _ ≤ n * size := Nat.mul_le_mul_right _ hi

/-- the cells of an element -/
def EC (v : Value) (size i : Nat) (cs : List Value) (w : World) : Prop := (∃ n cap, i < n ∧ v = .slice (some ⟨sBlk v, sOff v, none⟩) n cap) ∧ ∀ k, k < size → w.cell? ⟨sBlk v, sOff v + i * size + k, none⟩ = cs[k]?
theorem RepS.elem (h : RepS T v xs w) {i : Nat} {x : α} (hx : xs[i]? = some x) : ∃ cs, T.rep cs x w ∧ EC v T.size i cs w := by
  obtain ⟨cs, h1, h2, h3⟩ := h
  have hi : i < xs.length := (List.getElem?_eq_some_iff.1 hx).1
  refine ⟨_, h3 i x hx, ?_, fun k hk => ?_⟩
  · obtain ⟨cap, hv⟩ := h1.base (by omega)
    exact ⟨_, cap, hi, hv⟩
  · rw [Nat.add_assoc, h1.cell _ (mul_add_lt hi hk), List.getElem?_take, if_pos hk, List.getElem?_drop]
theorem elem_of_lt {i : Nat} (h : i < xs.length) : ∃ x, xs[i]? = some x := ⟨_, List.getElem?_eq_getElem h⟩
end

/-! ## Flat types -/
section
variable {α : Type} {size : Nat} {enc : α → List Value} {he : ∀ x, (enc x).length = size}
theorem drop_flatMap (he : ∀ x, (enc x).length = size) : ∀ (xs : List α) (i : Nat), (xs.flatMap enc).drop (i * size) = (xs.drop i).flatMap enc := by
  intro xs
  induction xs with
  | nil => intro i; simp
  | cons y xs ih =>
    intro i
    cases i with
    | zero => simp
    | succ i =>
      rw [List.flatMap_cons, List.drop_succ_cons, ← ih i, Nat.add_mul, Nat.one_mul, Nat.add_comm]
      rw [← List.drop_drop]
      congr 1
      rw [← he y, List.drop_left]
theorem length_flatMap (he : ∀ x, (enc x).length = size) (xs : List α) : (xs.flatMap enc).length = xs.length * size := by
  induction xs with
  | nil => simp
  | cons y xs ih => rw [List.flatMap_cons, List.length_append, ih, he, List.length_cons, Nat.add_mul, Nat.one_mul, Nat.add_comm]
theorem repL_flat (he : ∀ x, (enc x).length = size) (xs : List α) (w : World) : RepL (Ty.flat size enc he) (xs.flatMap enc) xs w := by
  refine ⟨length_flatMap he xs, fun i x hx => ?_⟩
  show ((xs.flatMap enc).drop (i * size)).take size = enc x
  rw [drop_flatMap he]
  have : xs.drop i = x :: xs.drop (i + 1) := by
    obtain ⟨h1, h2⟩ := List.getElem?_eq_some_iff.1 hx
    rw [List.drop_eq_getElem_cons h1, h2]
  rw [this, List.flatMap_cons, ← he x, List.take_left]
theorem flat_of_repL {cs : List Value} {xs : List α} {w : World} (h : RepL (Ty.flat size enc he) cs xs w) : cs = xs.flatMap enc := by
  obtain ⟨h1, h2⟩ := h
  have h1' : cs.length = xs.length * size := h1
  induction xs generalizing cs with
  | nil => simp at h1'; simpa using h1'
  | cons y xs ih =>
    have hl : size ≤ cs.length := by rw [h1', List.length_cons, Nat.add_mul]; omega
    have e1 : cs.take size = enc y := by have := h2 0 y rfl; simpa [Ty.flat] using this
    have e2 : cs.drop size = xs.flatMap enc := by
      refine ih ?_ ?_ ?_
      · show (cs.drop size).length = xs.length * size
        rw [List.length_drop, h1', List.length_cons, Nat.add_mul]; omega
      · intro i x hx
        have := h2 (i + 1) x (by simpa using hx)
        simp only [Ty.flat] at this ⊢
        rw [List.drop_drop, Nat.add_comm]
        rw [Nat.add_mul, Nat.one_mul] at this
        exact this
      · rw [List.length_drop, h1', List.length_cons, Nat.add_mul]; omega
    rw [List.flatMap_cons, ← e1, ← e2, List.take_append_drop]
theorem RepS.flat {v : Value} {xs : List α} {w : World} : RepS (Ty.flat size enc he) v xs w ↔ SlAt size v xs.length (xs.flatMap enc) w := by
  constructor
  · rintro ⟨cs, h1, h2⟩; rw [← flat_of_repL h2]; exact h1
  · exact fun h => ⟨_, h, repL_flat he xs w⟩
end

/-! ## Own slices -/
def own (e : TypeId) (size : Nat) (v : Value) (n : Nat) (cs : List Value) : Chunk := ⟨fun b => v.ownBlock = some b, fun w => w.ownsRow 0 e size v n cs⟩
section
variable {w w' : World} {e : TypeId} {size : Nat} {v : Value} {n : Nat} {cs : List Value}
theorem own_ok (h : w.ownsRow 0 e size v n cs) : (own e size v n cs).Ok w := by
  refine ⟨fun b hb => (h.lt b hb).2, fun w' hw => ⟨h.1, ?_⟩⟩
  rcases h.2 with h' | ⟨g, cap, cur, rfl, h1, h2, h3⟩
  · exact .inl h'
  · refine .inr ⟨g, cap, cur, rfl, h1, ?_, h3⟩
    rw [hw g (by simp [own, Value.ownBlock])]; exact h2
theorem own_nil (w : World) (e : TypeId) (size : Nat) : (own e size (.slice none 0 0) 0 []).Ok w := own_ok (World.ownsRow_nil w 0 e size)
theorem own_slAt (h : w.ownsRow 0 e size v n cs) : SlAt size v n cs w := by
  rcases h.2 with ⟨rfl, rfl⟩ | ⟨g, cap, cur, rfl, _, h2, h3, h4, h5, h6⟩
  · exact .inl ⟨⟨_, rfl⟩, rfl, List.eq_nil_of_length_eq_zero (by simpa using h.1)⟩
  · refine .inr ⟨g, 0, cap, cur, e, (0, 0), rfl, h3, h4, h2, by omega, h.1, fun j hj => ?_⟩
    rw [← h6, List.getElem?_take, if_pos hj]; simp
end

namespace Mem
variable {F X : Nat → Prop} {w0 w w' : World} {L : List Chunk} {R : List (World → Prop)}
theorem ownNil (M : Mem F X w0 L R w) (e : TypeId) (size : Nat) : Mem F X w0 (Tp.own e size (.slice none 0 0) 0 [] :: L) R w :=
  M.own (Mod.refl _ _) (own_nil w e size) fun b hb => by simp [Tp.own, Value.ownBlock] at hb
end Mem

namespace Step
variable {P : Program} {ρ : Env} {w w' : World} {ty : TypeId}

/-- the address of an element of a slice -/
theorem indexAddr {t e : TypeId} {x ix : Operand} {v : Value} {b o n cap i size : Nat} {k : IntKind} {z : Int} (ht : ∀ w, (underlying t).run P w = .ok (.slice e) w) (hs : Sized P e size)
    (hx : ρ.ev x = v) (hi : ρ.ev ix = .int k z) (hz : z = (i : Int)) (hv : v = .slice (some ⟨b, o, none⟩) n cap) (hlt : i < n) : Step P (.indexAddr t x ix) ty ρ w (.pointer (some ⟨b, o + i * size, none⟩)) w := by
  intro d pos aft g
  left
  have hadd : (⟨b, o, none⟩ : Addr).add (i * size) = ⟨b, o + i * size, none⟩ := by unfold Addr.add; split <;> simp_all
  subst hz
  simp only [execOp, Instr.indexAt, hx, hi, hv, asIntOf, ht w, Sem.run_bind, Sem.run_pure, Result.andThen_ok, pure_bind]
  rw [if_pos (by omega)]
  simp [hs w, hadd]
end Step
end Tp
