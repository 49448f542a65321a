/- Cutting out of slices of one's own; what is cleared; append to what is clipped. -/
import Derived.Test.YtlehkjkpgmkbiaaTrRange
set_option linter.all false
namespace Tp
open Go

def vClip : Value → Value
  | .slice a n _ => .slice a n n
  | v => v
section
variable {P : Program} {w : World} {t ty e : TypeId} {z : Value} {size bytes n : Nat} {v : Value} {cs : List Value}
end

section
variable {P : Program} {F X : Nat → Prop} {w w0 : World} {L : List Chunk} {R : List (World → Prop)} {ρ : Env} {d : Option Nat} {pos : String} {aft : Array Edge} {g : Option (Nat × Bool)} {t ty e : TypeId} {z : Value} {size bytes : Nat} {x y : Operand} {v : Value} {n : Nat} {cs : List Value}
end
section
variable {P : Program} {ops : Array Oper} {ld mk : List Nat} {Q : Env → World → Prop} {i : Nat} {d : Option Nat} {op : Op} {ty : TypeId} {pos : String} {aft : Array Edge} {g : Option (Nat × Bool)}
  {rest : List Nat} {ρ : Env} {F X : Nat → Prop} {w0 : World} {Lp L : List Chunk} {Rp R : List (World → Prop)}
end

/-! ### Shapes of slices -/
def Shp (v : Value) (n : Nat) : Prop := ∃ a, v = .slice a n (vCap v) ∧ n ≤ vCap v ∧ vCap v ≤ maxLen
theorem SlAt.shp {size n : Nat} {v : Value} {cs : List Value} {w : World} (h : SlAt size v n cs w) : Shp v n := by
  rcases h with ⟨⟨a, rfl⟩, rfl, _⟩ | ⟨b, o, cap, _, _, _, rfl, h, h', _⟩
  · exact ⟨a, rfl, Nat.le_refl _, Nat.zero_le _⟩
  · exact ⟨_, rfl, h, h'⟩
theorem Shp.take {v : Value} {n k : Nat} (h : Shp v n) (hk : k ≤ vCap v) : Shp (vTake k v) k := by
  obtain ⟨a, e, _, h3⟩ := h
  rw [e] at hk h3 ⊢
  exact ⟨a, rfl, hk, h3⟩
theorem Shp.cap {v : Value} {n k : Nat} (h : Shp v n) : vCap (vTake k v) = vCap v := by
  obtain ⟨a, e, _⟩ := h
  rw [e]; rfl
theorem Shp.isSl {v : Value} {n : Nat} (h : Shp v n) : IsSl v := let ⟨a, e, _⟩ := h; ⟨a, n, _, e⟩
namespace Step
variable {P : Program} {ρ : Env} {w : World} {ty t e : TypeId} {x a b c : Operand} {v : Value} {size n l h m : Nat} {k k' k'' : IntKind} {z z' z'' : Int}
theorem sliceToP (ht : Und P t (.slice e)) (hs : Sized P e size) (hx : ρ.ev x = v) (hj : ρ.ev b = .int k' z') (hz' : z' = (h : Int)) (hv : Shp v n) (hc : h ≤ vCap v) : Step P (.slice t x none (some b) none) ty ρ w (vTake h v) w := by
  obtain ⟨ad, e, _⟩ := hv
  have := sliceH (ty := ty) (w := w) ht hs hx hj hz' e hc
  rw [e] at this ⊢
  exact this
theorem sliceFromP (ht : Und P t (.slice e)) (hs : Sized P e size) (hx : ρ.ev x = v) (hi : ρ.ev a = .int k z) (hz : z = (l : Int)) (hv : Shp v n) (hle : l ≤ n) : Step P (.slice t x (some a) none none) ty ρ w (vSlice size l n (vCap v) v) w := by
  obtain ⟨ad, e, _⟩ := hv
  exact sliceFrom ht hs hx hi hz e hle
theorem sliceLHP (ht : Und P t (.slice e)) (hs : Sized P e size) (hx : ρ.ev x = v) (hi : ρ.ev a = .int k z) (hz : z = (l : Int)) (hj : ρ.ev b = .int k' z') (hz' : z' = (h : Int)) (hv : Shp v n) (hle : l ≤ h) (hc : h ≤ vCap v) :
    Step P (.slice t x (some a) (some b) none) ty ρ w (vSlice size l h (vCap v) v) w := by
  obtain ⟨ad, e, _⟩ := hv
  exact sliceLH ht hs hx hi hz hj hz' e hle hc
end Step
section
variable {α : Type} {enc : α → List Value} {P : Program} {F X : Nat → Prop} {w w0 : World} {L : List Chunk} {R : List (World → Prop)} {ρ : Env} {t ty e : TypeId} {z : Value} {size bytes : Nat} {x y : Operand} {v : Value} {xs : List α}
end
/-! ### Where an element first is -/
def ixF {α : Type} (p : α → Bool) (xs : List α) : Int := match xs.findIdx? p with
  | some i => (i : Int)
  | none => -1
def ixN {α : Type} (p : α → Bool) (xs : List α) : Nat := match xs.findIdx? p with
  | some i => i + 1
  | none => xs.length
section
variable {α : Type} {p : α → Bool} {xs : List α} {i : Nat} {x : α}
end
end Tp
namespace Tp
open Go
section
variable {α : Type} {p : α → Bool} {xs ys : List α} {i j : Nat} {x : α}
end
end Tp
namespace Tp
open Go
end Tp
