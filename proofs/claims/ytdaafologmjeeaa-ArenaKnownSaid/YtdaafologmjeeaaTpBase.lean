/- Walks over environments that are functions: rules for code, one rule a kind of operation. -/
import Derived.WalkKit
namespace Tp
open Go

/-! ## Environments -/
abbrev Env := Nat → Value
def Env.set (ρ : Env) (t : Nat) (v : Value) : Env := fun u => if u = t then v else ρ u
def Env.put (ρ : Env) : Option Nat → Value → Env
  | some t, v => ρ.set t v
  | none, _ => ρ
def Env.ev (ρ : Env) : Operand → Value
  | .tmp t => ρ t
  | .const v => v
  | .global g => .pointer (some ⟨g, 0, none⟩)
  | .func f => .func (.func f) #[] #[]
def Env.init (args : List Value) : Env := fun t => args.getD t undef

structure EnvOf (n : Nat) (ρ : Env) (a : Act) : Prop where
  size : a.tmps.size = n
  get : ∀ t, a.tmps.getD t undef = ρ t
  defers : a.defers = []

theorem EnvOf.eval {n : Nat} {ρ : Env} {a : Act} (h : EnvOf n ρ a) : a.eval = ρ.ev := by
  funext x
  cases x with
  | tmp t => exact h.get t
  | _ => rfl

theorem EnvOf.put {n : Nat} {ρ : Env} {a : Act} (h : EnvOf n ρ a) (d : Option Nat) (hd : d.all (· < n) = true) (v : Value) : EnvOf n (ρ.put d v) (a.put d v) := by
  cases d with
  | none => exact h
  | some d =>
    have hd' : d < n := by simpa using hd
    refine ⟨by simp [Act.put, h.size], fun t => ?_, h.defers⟩
    have := h.get t
    simp only [Act.put, Env.put, Env.set, Array.getD_eq_getD_getElem?, Array.getElem?_setIfInBounds] at *
    by_cases e : t = d
    · subst e; simp [h.size, hd']
    · rw [if_neg e, if_neg (fun e' => e e'.symm)]; exact this

/-! ## Code -/
def lift (n : Nat) (Q : Exit → Env → World → Prop) (e : Exit) (a : Act) (w : World) : Prop := ∃ ρ, EnvOf n ρ a ∧ Q e ρ w

def W (P : Program) (n : Nat) (c : Code) (Q : Exit → Env → World → Prop) (ρ : Env) (w : World) : Prop :=
  ∀ a, EnvOf n ρ a → c.wp P (lift n Q) a w

def thn (K : Env → World → Prop) (Q : Exit → Env → World → Prop) : Exit → Env → World → Prop
  | .normal, ρ, w => K ρ w
  | e, ρ, w => Q e ρ w
def inBlk (id : Nat) (Q : Exit → Env → World → Prop) : Exit → Env → World → Prop
  | .exit id', ρ, w => if id' = id then Q .normal ρ w else Q (.exit id') ρ w
  | e, ρ, w => Q e ρ w

section
variable {P : Program} {n : Nat} {Q : Exit → Env → World → Prop} {ρ : Env} {w : World}

theorem W.mono {c : Code} {Q' : Exit → Env → World → Prop} (h : W P n c Q ρ w) (hq : ∀ e ρ w, Q e ρ w → Q' e ρ w) : W P n c Q' ρ w :=
  fun a ha => wp_mono (h a ha) fun e _ _ ⟨ρ, h1, h2⟩ => ⟨ρ, h1, hq e _ _ h2⟩

theorem W.skip (h : Q .normal ρ w) : W P n .skip Q ρ w := fun _ ha => wp_skip ⟨ρ, ha, h⟩
theorem W.label {l : Nat} (h : Q .normal ρ w) : W P n (.label l) Q ρ w := fun _ ha => wp_label ⟨ρ, ha, h⟩
theorem W.exit {id : Nat} (h : Q (.exit id) ρ w) : W P n (.exit id) Q ρ w := fun _ ha => wp_exit ⟨ρ, ha, h⟩
theorem W.ret (h : Q .ret ρ w) : W P n .ret Q ρ w := fun _ ha => wp_ret ⟨ρ, ha, h⟩

theorem W.seq {x y : Code} (J : Env → World → Prop) (hx : W P n x (thn J Q) ρ w) (hy : ∀ ρ w, J ρ w → W P n y Q ρ w) : W P n (.seq x y) Q ρ w := by
  intro a ha
  refine wp_seq (wp_mono (hx a ha) ?_)
  rintro e a' w' ⟨ρ', h1, h2⟩
  cases e with
  | normal => exact hy ρ' w' h2 a' h1
  | _ => exact ⟨ρ', h1, h2⟩

/-- what comes next is walked where the first ends -/
theorem W.seq' {x y : Code} (hx : W P n x (thn (W P n y Q) Q) ρ w) : W P n (.seq x y) Q ρ w := W.seq _ hx fun _ _ h => h

theorem W.cond {c : Operand} {x y : Code} {t : Bool} (hc : ρ.ev c = .bool t) (ht : t = true → W P n x Q ρ w) (hf : t = false → W P n y Q ρ w) : W P n (.cond c x y) Q ρ w := by
  intro a ha
  refine wp_cond_split (t := t) (by rw [ha.eval]; exact hc) (fun h => ht h a ha) (fun h => hf h a ha)

theorem W.block {id : Nat} {c : Code} (h : W P n c (inBlk id Q) ρ w) : W P n (.block id c) Q ρ w := by
  intro a ha
  refine wp_block (wp_mono (h a ha) ?_)
  rintro e a' w' ⟨ρ', h1, h2⟩
  cases e with
  | exit id' =>
    simp only [inBlk] at h2
    simp only [Exit.inBlock]
    split
    · rename_i he; rw [if_pos he] at h2; exact ⟨ρ', h1, h2⟩
    · rename_i he; rw [if_neg he] at h2; exact ⟨ρ', h1, h2⟩
  | _ => exact ⟨ρ', h1, h2⟩

/-- A loop: what holds at each round's head, with a number that falls. -/
theorem W.loop {c : Code} (I : Nat → Env → World → Prop) (k₀ : Nat) (h₀ : I k₀ ρ w)
    (round : ∀ k ρ w, I k ρ w → W P n c (thn (fun ρ' w' => ∃ k', k' < k ∧ I k' ρ' w') Q) ρ w) : W P n (.loop c) Q ρ w := by
  intro a ha b k cs
  have key : ∀ m (a : Act) (w : World) (ρ : Env), EnvOf n ρ a → I m ρ w →
      ∃ e a' w', lift n Q e a' w' ∧ Arrives P (lone (b.at a (.code c :: .inLoop c :: k)) cs w) b k cs e a' w' := by
    intro m
    induction m using Nat.strongRecOn with
    | _ m ih =>
      intro a w ρ ha hI
      obtain ⟨e, a₁, w₁, ⟨ρ₁, hρ, hq⟩, harr⟩ := round m ρ w hI a ha b (.inLoop c :: k) cs
      cases e with
      | normal =>
        obtain ⟨m', hlt, hI₁⟩ := hq
        obtain ⟨e₂, a₂, w₂, hq₂, harr₂⟩ := ih m' hlt a₁ w₁ ρ₁ hρ hI₁
        exact ⟨e₂, a₂, w₂, hq₂, .of_steps (Steps.trans harr (.one step_inLoop)) harr₂⟩
      | exit id => exact ⟨_, a₁, w₁, ⟨ρ₁, hρ, hq⟩, .pass (x := .inLoop c) rfl (fun _ _ => .inl (by simp)) harr⟩
      | goto l => exact ⟨_, a₁, w₁, ⟨ρ₁, hρ, hq⟩, .pass (x := .inLoop c) rfl (fun _ _ => .inl (by simp)) harr⟩
      | ret => exact ⟨_, a₁, w₁, ⟨ρ₁, hρ, hq⟩, .pass (x := .inLoop c) rfl (fun _ _ => .inl (by simp)) harr⟩
      | panic ch => exact ⟨_, a₁, w₁, ⟨ρ₁, hρ, hq⟩, .pass (x := .inLoop c) rfl (fun _ _ => .inl (by simp)) harr⟩
      | outgrown => exact ⟨_, a₁, w₁, ⟨ρ₁, hρ, hq⟩, .pass (x := .inLoop c) rfl (fun _ _ => .inl (by simp)) harr⟩
  obtain ⟨e, a', w', hq, harr⟩ := key k₀ a w ρ ha h₀
  exact ⟨e, a', w', hq, .of_steps (.one step_loop) harr⟩
end

/-! ## Functions -/
/-- A call returns, and this holds of its result. -/
def Rets (P : Program) (f : FuncId) (args : Array Value) (w : World) (R : Value → World → Prop) : Prop :=
  Calls P f args w fun e w' => ∃ v, e = .returned v ∧ R v w'
theorem Rets.mono {P : Program} {f : FuncId} {args : Array Value} {w : World} {R R' : Value → World → Prop} (h : Rets P f args w R) (hr : ∀ v w', R v w' → R' v w') : Rets P f args w R' :=
  Calls.mono h fun _ _ ⟨v, h1, h2⟩ => ⟨v, h1, hr _ _ h2⟩

/-- what a frame of these slots hands back -/
def Res (P : Program) (rs : Array ResultVar) (ρ : Env) (w : World) (v : Value) : Prop :=
  ∀ fn tmps, fn.results = rs → (∀ t, tmps.getD t undef = ρ t) → (results fn tmps).run P w = .ok v w

theorem Rets.enter {P : Program} {f : FuncId} {fn : Func} {c : Code} {args : List Value} {w : World} {R : Value → World → Prop} (n : Nat) (rs : Array ResultVar)
    (hf : P.funcs[f]? = some fn) (hb : fn.body = some c) (hn : fn.ntmps = n) (hr : fn.results = rs) (hle : args.length ≤ n)
    (h : W P n c (fun e ρ w => (e = .ret ∨ e = .normal) ∧ ∃ v, Res P rs ρ w v ∧ R v w) (Env.init args) w) : Rets P f args.toArray w R := by
  refine calls_of_wp hf hb ?_
  refine wp_mono (h _ ⟨?_, ?_, rfl⟩) ?_
  · simp [hn]; omega
  · intro t
    simp only [Env.init, Array.getD_eq_getD_getElem?, List.getD_eq_getElem?_getD]
    by_cases e : t < args.length
    · rw [Array.getElem?_append_left (by simpa using e)]; simp
    · rw [Array.getElem?_append_right (by simpa using e), List.getElem?_eq_none (by omega)]
      simp only [Array.getElem?_replicate]
      split <;> rfl
  · rintro e a w' ⟨ρ', h1, he, v, hv, hR⟩
    have := hv fn a.tmps hr h1.get
    rcases he with rfl | rfl
    · exact ⟨h1.defers, v, this, v, rfl, hR⟩
    · exact ⟨h1.defers, v, this, v, rfl, hR⟩

section
variable {P : Program} {ρ : Env} {w : World}
theorem Res.none : Res P #[] ρ w (.tuple #[]) := fun _ _ h _ => by simp [results, h]
theorem Res.one {t : Nat} : Res P #[.tmp t] ρ w (ρ t) := fun _ _ h hg => by simp [results, h, ← hg, Array.getD_eq_getD_getElem?]
end
end Tp
