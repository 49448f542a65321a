/- More operations: slicing at both ends, append where the order is drawn, quotients of numbers that are not below 0. -/
import Derived.Test.YthihknbbibgchaaTrOps2
import Derived.Test.YthihknbbibgchaaTrElem
namespace Tp
open Go

/-! ### Slicing -/
/-- s[l:h], of so much room m -/
def vSlice (size l h m : Nat) : Value → Value
  | .slice a _ _ => .slice (if m = l then a else a.map (·.add (l * size))) (h - l) (m - l)
  | v => v
def vCap : Value → Nat
  | .slice _ _ c => c
  | _ => 0
theorem addr_add_none (b o k : Nat) : (⟨b, o, none⟩ : Addr).add k = ⟨b, o + k, none⟩ := by unfold Addr.add; split <;> simp_all
theorem slat_slice {size n l h m : Nat} {v : Value} {cs : List Value} {w : World} (H : SlAt size v n cs w) (hlh : l ≤ h) (hn : h ≤ n) (hm : h ≤ m) (hc : m ≤ vCap v) :
    SlAt size (vSlice size l h m v) (h - l) ((cs.drop (l * size)).take ((h - l) * size)) w := by
  rcases H with ⟨⟨a, rfl⟩, rfl, rfl⟩ | ⟨b, o, cap, c, e, fz, rfl, h1, h2, h3, h4, h5, h6⟩
  · have : h = 0 := by omega
    subst this
    have : l = 0 := by omega
    subst this
    have : m = 0 := by simpa [vCap] using hc
    subst this
    exact .inl ⟨⟨a, by simp [vSlice]⟩, rfl, by simp⟩
  · have hc' : m ≤ cap := hc
    by_cases e1 : m = l
    · have : h = l := by omega
      subst this
      subst e1
      exact .inl ⟨⟨some ⟨b, o, none⟩, by simp [vSlice]⟩, by omega, by simp⟩
    · refine .inr ⟨b, o + l * size, m - l, c, e, fz, ?_, by omega, by omega, h3, ?_, ?_, fun j hj => ?_⟩
      · simp [vSlice, e1, addr_add_none]
      · have : (m - l) * size + l * size = m * size := by rw [← Nat.add_mul]; congr 1; omega
        have : m * size ≤ cap * size := Nat.mul_le_mul_right _ hc'
        omega
      · rw [List.length_take, List.length_drop, h5]
        have : (h - l) * size + l * size = h * size := by rw [← Nat.add_mul]; congr 1; omega
        have : h * size ≤ n * size := Nat.mul_le_mul_right _ hn
        omega
      · have e2 : (h - l) * size + l * size = h * size := by rw [← Nat.add_mul]; congr 1; omega
        have e3 : h * size ≤ n * size := Nat.mul_le_mul_right _ hn
        rw [List.getElem?_take, if_pos hj, List.getElem?_drop, ← h6 _ (by omega), Nat.add_assoc]
/-- of a flat type -/
theorem slat_sliceF {α : Type} {enc : α → List Value} {size : Nat} (he : ∀ x, (enc x).length = size) {v : Value} {xs : List α} {l h m : Nat} {w : World} (H : SlAt size v xs.length (xs.flatMap enc) w) (hlh : l ≤ h) (hn : h ≤ xs.length) (hm : h ≤ m) (hc : m ≤ vCap v) :
    SlAt size (vSlice size l h m v) ((xs.drop l).take (h - l)).length (((xs.drop l).take (h - l)).flatMap enc) w := by
  have := slat_slice H hlh hn hm hc
  rw [drop_flatMap he, take_flatMap he] at this
  rwa [show ((xs.drop l).take (h - l)).length = h - l by simp; omega]
theorem SlAt.cap {size n : Nat} {v : Value} {cs : List Value} {w : World} (H : SlAt size v n cs w) : n ≤ vCap v ∧ vCap v ≤ maxLen := by
  rcases H with ⟨⟨a, rfl⟩, rfl, _⟩ | ⟨b, o, cap, _, _, _, rfl, h, h', _⟩
  · exact ⟨Nat.le_refl _, Nat.zero_le _⟩
  · exact ⟨h, h'⟩
namespace Step
variable {P : Program} {ρ : Env} {w : World} {ty t e : TypeId} {x a b c : Operand} {v : Value} {size n l h m : Nat} {k k' k'' : IntKind} {z z' z'' : Int}
/-- s[l:] -/
theorem sliceFrom {ad : Option Addr} {cap : Nat} (ht : Und P t (.slice e)) (hs : Sized P e size) (hx : ρ.ev x = v) (hi : ρ.ev a = .int k z) (hz : z = (l : Int)) (hv : v = .slice ad n cap) (hle : l ≤ n) :
    Step P (.slice t x (some a) none none) ty ρ w (vSlice size l n (vCap v) v) w := by
  intro d pos aft g
  left
  subst hz
  subst hv
  have h1 : (0 : Int) ≤ l ∧ (l : Int) ≤ n := ⟨by omega, by omega⟩
  have h3 : ¬ (n < l) := by omega
  simp [execOp, Instr.sliceAt, Instr.slice, hx, hi, ht.run, Instr.sliceBounds, Instr.sliceBound, asIntOf, hs w, h1, h3, vSlice, vCap, hle]
  try rfl
/-- s[:h] -/
theorem sliceH {ad : Option Addr} {cap : Nat} (ht : Und P t (.slice e)) (hs : Sized P e size) (hx : ρ.ev x = v) (hj : ρ.ev b = .int k' z') (hz' : z' = (h : Int)) (hv : v = .slice ad n cap) (hc : h ≤ cap) :
    Step P (.slice t x none (some b) none) ty ρ w (.slice ad h cap) w := by
  intro d pos aft g
  left
  subst hz'
  subst hv
  have h2 : (0 : Int) ≤ h ∧ (h : Int) ≤ cap := ⟨by omega, by omega⟩
  have h3 : ¬ (cap < h) := by omega
  have hadd : ∀ a : Addr, a.add 0 = a := fun a => by unfold Addr.add; split <;> simp_all
  have h5 : (Option.map (fun a : Addr => a.add 0) ad) = ad := by cases ad <;> simp [hadd]
  simp [execOp, Instr.sliceAt, Instr.slice, hx, hj, ht.run, Instr.sliceBounds, Instr.sliceBound, asIntOf, hs w, h2, h3, h5, hc]
theorem remN {t ty' : TypeId} {y : Operand} {k : IntKind} {a b : Int} (hx : ρ.ev x = .int k a) (hy : ρ.ev y = .int k b) (ha : 0 ≤ a) (hb : 0 < b) : Step P (.binOp .rem t x y ty') ty ρ w (.int k (a % b)) w := by
  rw [← Int.tmod_eq_emod_of_nonneg ha]
  exact Step.rem hx hy (by omega)
theorem quoN {t ty' : TypeId} {y : Operand} {k : IntKind} {a b : Int} (hx : ρ.ev x = .int k a) (hy : ρ.ev y = .int k b) (ha : 0 ≤ a) (hb : 0 < b) (hc : k.wrap (a / b) = a / b) : Step P (.binOp .quo t x y ty') ty ρ w (.int k (a / b)) w := by
  refine Step.quo hx hy (by omega) ?_
  rw [Int.tdiv_eq_ediv_of_nonneg ha]; exact hc
end Step

/-! ### An operation that turns a chunk, into what hangs on its value; the order is drawn -/
section
variable {P : Program} {ops : Array Oper} {ld mk : List Nat} {Q : Env → World → Prop} {i : Nat} {d : Option Nat} {op : Op} {ty : TypeId} {pos : String} {aft : Array Edge} {g : Option (Nat × Bool)}
  {rest : List Nat} {ρ : Env} {F X : Nat → Prop} {w0 : World} {Lp L : List Chunk} {Rp R : List (World → Prop)}
theorem TW.doesM {c : Chunk} (C : Value → Chunk) (j : Nat) (hj : L[j]? = some c) (hi : ops[i]? = some ⟨d, op, ty, pos, aft, g⟩) (hl : i ∈ ld) (hw : ρ.want ops g = true)
    (hL : ∀ v, Lp.Sublist (L.set j (C v))) (hR : ∀ r, r ∈ Rp → r ∈ R)
    (h : ∀ A w, Mem F X w0 (fl A :: L) R w → Does P ⟨d, op, ty, pos, aft, g⟩ ρ w fun v w' => Mod c.foot w w' ∧ Mem F X w0 ((fl A :: L).set (j + 1) (C v)) R w')
    (k : ∀ v, (∃ A w, Mem F X w0 (fl A :: L.set j (C v)) R w) → TW P ops ld mk (Dm F X w0 Lp Rp) Q rest (ρ.put d v) (MemA F X w0 (L.set j (C v)) R)) (hm : i ∉ mk := by decide) : TW P ops ld mk (Dm F X w0 Lp Rp) Q (i :: rest) ρ (MemA F X w0 L R) := by
  refine .loud (hm := hm) (fun v A w => MemA F X w0 (L.set j (C v)) R A w) hi hl hw (fun v => good_mem (hL v) hR) (fun A w M => ?_) ?_
  · refine Does.mono (h A w M) fun v w' ⟨h1, h2⟩ => ⟨?_, fun b hb => ?_⟩
    · rwa [List.set_cons_succ] at h2
    · exact h1.block b ((Mem.chunk M 0 rfl).lt b hb) (Mem.disj_ne M (i := 0) (j := j + 1) rfl (by simpa using hj) (by omega) b hb)
  · rintro v ⟨A, w, hM⟩
    exact k v ⟨A, w, hM⟩
end
theorem Mem.appendF' {α : Type} {enc : α → List Value} {P : Program} {F X : Nat → Prop} {w0 w : World} {L : List Chunk} {R : List (World → Prop)} {ρ : Env} {d : Option Nat} {pos : String} {aft : Array Edge} {g : Option (Nat × Bool)} {t ty e : TypeId} {z : Value} {size bytes : Nat} {x y : Operand}
    {v sv : Value} (xs ys : List α) (M : Mem F X w0 L R w) (i : Nat) (ht : Und P t (.slice e)) (he : Elem P e z size bytes) (hzs : z.cells.size = size) (hsz : 0 < size)
    (hx : ρ.ev x = v) (hy : ρ.ev y = sv) (hi : L[i]? = some (Tp.own e size v xs.length (xs.flatMap enc))) (hsrc : SlAt size sv ys.length (ys.flatMap enc) w) (h1 : ∀ x, Step.Cellish (enc x))
    (h63 : xs.length + ys.length ≤ maxLen) (hb : (xs.length + ys.length) * bytes ≤ 140737488355328) :
    Does P ⟨d, .call { callee := .builtin .append, args := #[x, y], argTypes := #[t, t] }, ty, pos, aft, g⟩ ρ w fun v' w' =>
      Mod (Tp.own e size v xs.length (xs.flatMap enc)).foot w w' ∧ Mem F X w0 (L.set i (Tp.own e size v' (xs ++ ys).length ((xs ++ ys).flatMap enc))) R w' := by
  refine (M.append i ht he hzs hsz hx hy hi hsrc (cel_flatMap h1 ys).one h63 hb).mono fun v' w' ⟨_, h2, M'⟩ => ⟨h2, ?_⟩
  rw [List.length_append, List.flatMap_append]
  exact M'
end Tp
