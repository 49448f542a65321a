/- Cutting out of slices of one's own; what is cleared; append to what is clipped. -/
import Derived.Test.YthihknbbibgchaaTrRange
set_option linter.all false
namespace Tp
open Go

theorem vTake_eq {i n cap : Nat} {a : Option Addr} : vTake i (.slice a n cap) = .slice a i cap := rfl
theorem vSlice_cap {size l h n cap g o : Nat} : vSlice size l h (vCap (.slice (some ⟨g, o, none⟩) n cap)) (.slice (some ⟨g, o, none⟩) n cap) = .slice (if cap = l then some ⟨g, o, none⟩ else some ⟨g, o + l * size, none⟩) (h - l) (cap - l) := by
  simp [vSlice, vCap, addr_add_none]
def vClip : Value → Value
  | .slice a n _ => .slice a n n
  | v => v
section
variable {P : Program} {w : World} {t ty e : TypeId} {z : Value} {size bytes n : Nat} {v : Value} {cs : List Value}
end

section
variable {P : Program} {F X : Nat → Prop} {w w0 : World} {L : List Chunk} {R : List (World → Prop)} {ρ : Env} {d : Option Nat} {pos : String} {aft : Array Edge} {g : Option (Nat × Bool)} {t ty e : TypeId} {z : Value} {size bytes : Nat} {x y : Operand} {v : Value} {n : Nat} {cs : List Value}
end
section
variable {P : Program} {ops : Array Oper} {ld mk : List Nat} {Q : Env → World → Prop} {i : Nat} {d : Option Nat} {op : Op} {ty : TypeId} {pos : String} {aft : Array Edge} {g : Option (Nat × Bool)}
  {rest : List Nat} {ρ : Env} {F X : Nat → Prop} {w0 : World} {Lp L : List Chunk} {Rp R : List (World → Prop)}
end

/-! ### Shapes of slices -/
def Shp (v : Value) (n : Nat) : Prop := ∃ a, v = .slice a n (vCap v) ∧ n ≤ vCap v ∧ vCap v ≤ maxLen
theorem SlAt.shp {size n : Nat} {v : Value} {cs : List Value} {w : World} (h : SlAt size v n cs w) : Shp v n := by
  rcases h with ⟨⟨a, rfl⟩, rfl, _⟩ | ⟨b, o, cap, _, _, _, rfl, h, h', _⟩
  · exact ⟨a, rfl, Nat.le_refl _, Nat.zero_le _⟩
  · exact ⟨_, rfl, h, h'⟩
theorem Shp.take {v : Value} {n k : Nat} (h : Shp v n) (hk : k ≤ vCap v) : Shp (vTake k v) k := by
  obtain ⟨a, e, _, h3⟩ := h
  rw [e] at hk h3 ⊢
  exact ⟨a, rfl, hk, h3⟩
theorem Shp.cap {v : Value} {n k : Nat} (h : Shp v n) : vCap (vTake k v) = vCap v := by
  obtain ⟨a, e, _⟩ := h
  rw [e]; rfl
theorem Shp.isSl {v : Value} {n : Nat} (h : Shp v n) : IsSl v := let ⟨a, e, _⟩ := h; ⟨a, n, _, e⟩
namespace Step
variable {P : Program} {ρ : Env} {w : World} {ty t e : TypeId} {x a b c : Operand} {v : Value} {size n l h m : Nat} {k k' k'' : IntKind} {z z' z'' : Int}
theorem sliceToP (ht : Und P t (.slice e)) (hs : Sized P e size) (hx : ρ.ev x = v) (hj : ρ.ev b = .int k' z') (hz' : z' = (h : Int)) (hv : Shp v n) (hc : h ≤ vCap v) : Step P (.slice t x none (some b) none) ty ρ w (vTake h v) w := by
  obtain ⟨ad, e, _⟩ := hv
  have := sliceH (ty := ty) (w := w) ht hs hx hj hz' e hc
  rw [e] at this ⊢
  exact this
theorem sliceFromP (ht : Und P t (.slice e)) (hs : Sized P e size) (hx : ρ.ev x = v) (hi : ρ.ev a = .int k z) (hz : z = (l : Int)) (hv : Shp v n) (hle : l ≤ n) : Step P (.slice t x (some a) none none) ty ρ w (vSlice size l n (vCap v) v) w := by
  obtain ⟨ad, e, _⟩ := hv
  exact sliceFrom ht hs hx hi hz e hle
end Step
section
variable {α : Type} {enc : α → List Value} {P : Program} {F X : Nat → Prop} {w w0 : World} {L : List Chunk} {R : List (World → Prop)} {ρ : Env} {t ty e : TypeId} {z : Value} {size bytes : Nat} {x y : Operand} {v : Value} {xs : List α}
end
/-! ### Where an element first is -/
def ixF {α : Type} (p : α → Bool) (xs : List α) : Int := match xs.findIdx? p with
  | some i => (i : Int)
  | none => -1
def ixN {α : Type} (p : α → Bool) (xs : List α) : Nat := match xs.findIdx? p with
  | some i => i + 1
  | none => xs.length
section
variable {α : Type} {p : α → Bool} {xs : List α} {i : Nat} {x : α}
theorem findIdx_hit (hi : xs[i]? = some x) (hp : p x = true) (hb : ∀ j u, j < i → xs[j]? = some u → p u = false) : xs.findIdx? p = some i := by
  obtain ⟨h1, h2⟩ := List.getElem?_eq_some_iff.1 hi
  rw [List.findIdx?_eq_some_iff_getElem]
  refine ⟨h1, by rw [h2]; exact hp, fun j hj => ?_⟩
  have := hb j xs[j] hj (List.getElem?_eq_getElem _)
  simp [this]
theorem findIdx_none (hb : ∀ j u, j < i → xs[j]? = some u → p u = false) (hi : xs.length ≤ i) : xs.findIdx? p = none := by
  rw [List.findIdx?_eq_none_iff]
  intro x hx
  obtain ⟨j, hj⟩ := List.getElem?_of_mem hx
  exact hb j x (by have := (List.getElem?_eq_some_iff.1 hj).1; omega) hj
theorem below_stepG (hb : ∀ j u, j < i → xs[j]? = some u → p u = false) (hi : xs[i]? = some x) (hp : p x = false) : ∀ j u, j < i + 1 → xs[j]? = some u → p u = false := fun j u hj hu => by
  rcases Nat.lt_or_ge j i with h | h
  · exact hb j u h hu
  · have : j = i := by omega
    subst this; rw [hi] at hu; cases hu; exact hp
end
end Tp
namespace Tp
open Go
section
variable {α : Type} {p : α → Bool} {xs ys : List α} {i j : Nat} {x : α}
theorem ixF_none (h : xs.findIdx? p = none) : ixF p xs = -1 ∧ ixN p xs = xs.length := by unfold ixF ixN; rw [h]; exact ⟨rfl, rfl⟩
theorem ixF_some (h : xs.findIdx? p = some i) : ixF p xs = (i : Int) ∧ ixN p xs = i + 1 := by unfold ixF ixN; rw [h]; exact ⟨rfl, rfl⟩
theorem findIdx_some_at (h : xs.findIdx? p = some i) : i < xs.length ∧ (∃ x, xs[i]? = some x ∧ p x = true) ∧ ∀ j u, j < i → xs[j]? = some u → p u = false := by
  rw [List.findIdx?_eq_some_iff_getElem] at h
  obtain ⟨h1, h2, h3⟩ := h
  refine ⟨h1, ⟨_, List.getElem?_eq_getElem h1, h2⟩, fun j u hj hu => ?_⟩
  have := h3 j hj
  rw [(List.getElem?_eq_some_iff.1 hu).2] at this
  simpa using this
end
end Tp
namespace Tp
open Go
end Tp
