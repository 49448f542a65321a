/- Walks over environments that are functions: rules for code, one rule a kind of operation; frames of rounds among them. -/
import Derived.WalkKit
import Derived.AtR
import Derived.Orders
import Derived.RangeFuncRecord
namespace Tp
open Go

/-! ## Environments -/
/-- slots; the marks of ranges over functions; the round, if the frame is one -/
structure Env where
  f : Nat → Value
  ds : List Nat := []
  rd : Option Nat := none
instance : CoeFun Env (fun _ => Nat → Value) := ⟨Env.f⟩
def Env.set (ρ : Env) (t : Nat) (v : Value) : Env := ⟨fun u => if u = t then v else ρ.f u, ρ.ds, ρ.rd⟩
def Env.put (ρ : Env) : Option Nat → Value → Env
  | some t, v => ρ.set t v
  | none, _ => ρ
def Env.ev (ρ : Env) : Operand → Value
  | .tmp t => ρ.f t
  | .const v => v
  | .global g => .pointer (some ⟨g, 0, none⟩)
  | .func f => .func (.func f) #[] #[]
def Env.init (args : List Value) : Env := ⟨fun t => args.getD t undef, [], none⟩
def Env.mark (ρ : Env) (D : Nat) : Env := ⟨ρ.f, D :: ρ.ds, ρ.rd⟩
def markD (D : Nat) : Deferred := { target := .collected D, args := #[] }

structure EnvOf (n : Nat) (ρ : Env) (a : Act) : Prop where
  size : a.tmps.size = n
  get : ∀ t, a.tmps.getD t undef = ρ.f t
  defers : a.defers = ρ.ds.map markD

theorem EnvOf.eval {n : Nat} {ρ : Env} {a : Act} (h : EnvOf n ρ a) : a.eval = ρ.ev := by
  funext x
  cases x with
  | tmp t => exact h.get t
  | _ => rfl

theorem EnvOf.put {n : Nat} {ρ : Env} {a : Act} (h : EnvOf n ρ a) (d : Option Nat) (hd : d.all (· < n) = true) (v : Value) : EnvOf n (ρ.put d v) (a.put d v) := by
  cases d with
  | none => exact h
  | some d =>
    have hd' : d < n := by simpa using hd
    refine ⟨by simp [Act.put, h.size], fun t => ?_, h.defers⟩
    have := h.get t
    simp only [Act.put, Env.put, Env.set, Array.getD_eq_getD_getElem?, Array.getElem?_setIfInBounds] at *
    by_cases e : t = d
    · subst e; simp [h.size, hd']
    · rw [if_neg e, if_neg (fun e' => e e'.symm)]; exact this
@[simp] theorem Env.put_rd (ρ : Env) (d : Option Nat) (v : Value) : (ρ.put d v).rd = ρ.rd := by cases d <;> rfl

/-! ## Code -/
/-- where a piece of code comes to: behind it, or about to leave -/
def ArrR (P : Program) (m : Machine) (b : Frame) (k : List Item) (cs : List Frame) : Exit → Act → World → Prop
  | .normal, a, w => Steps P m (lone (b.atR a k) cs w)
  | .exit id, a, w => ∃ k0, exitTo id k0 = exitTo id k ∧ Steps P m (lone (b.atR a (.code (.exit id) :: k0)) cs w)
  | .ret, a, w => ∃ k0, Steps P m (lone (b.atR a (.code .ret :: k0)) cs w)
  | _, _, _ => False
theorem ArrR.of_steps {P : Program} {m m₁ : Machine} {b : Frame} {k : List Item} {cs : List Frame} {e : Exit} {a : Act} {w : World} (h : Steps P m m₁) (h' : ArrR P m₁ b k cs e a w) : ArrR P m b k cs e a w := by
  cases e with
  | normal => exact h.trans h'
  | exit id => obtain ⟨k0, h1, h2⟩ := h'; exact ⟨k0, h1, h.trans h2⟩
  | ret => obtain ⟨k0, h2⟩ := h'; exact ⟨k0, h.trans h2⟩
  | goto l => exact h'.elim
  | panic ch => exact h'.elim
  | outgrown => exact h'.elim
/-- out of a frame of code that is no block -/
theorem ArrR.pass {P : Program} {m : Machine} {b : Frame} {x : Item} {k : List Item} {cs : List Frame} {e : Exit} {a : Act} {w : World} (hx : ∀ id, exitTo id (x :: k) = exitTo id k) (he : e ≠ .normal)
    (h : ArrR P m b (x :: k) cs e a w) : ArrR P m b k cs e a w := by
  cases e with
  | normal => exact absurd rfl he
  | exit id => obtain ⟨k0, h1, h2⟩ := h; exact ⟨k0, h1.trans (hx id), h2⟩
  | ret => exact h
  | goto l => exact h
  | panic ch => exact h
  | outgrown => exact h

def lift (n : Nat) (Q : Exit → Env → World → Prop) (e : Exit) (a : Act) (w : World) (rd : Option Nat) : Prop := ∃ ρ, EnvOf n ρ a ∧ ρ.rd = rd ∧ Q e ρ w

def W (P : Program) (n : Nat) (c : Code) (Q : Exit → Env → World → Prop) (ρ : Env) (w : World) : Prop :=
  ∀ a, EnvOf n ρ a → ∀ (b : Frame) (k : List Item) (cs : List Frame), b.roundOf = ρ.rd →
    ∃ e a' w', lift n Q e a' w' ρ.rd ∧ ArrR P (lone (b.atR a (.code c :: k)) cs w) b k cs e a' w'

def thn (K : Env → World → Prop) (Q : Exit → Env → World → Prop) : Exit → Env → World → Prop
  | .normal, ρ, w => K ρ w
  | e, ρ, w => Q e ρ w
def inBlk (id : Nat) (Q : Exit → Env → World → Prop) : Exit → Env → World → Prop
  | .exit id', ρ, w => if id' = id then Q .normal ρ w else Q (.exit id') ρ w
  | e, ρ, w => Q e ρ w

section
variable {P : Program} {n : Nat} {Q : Exit → Env → World → Prop} {ρ : Env} {w : World}

theorem W.mono {c : Code} {Q' : Exit → Env → World → Prop} (h : W P n c Q ρ w) (hq : ∀ e ρ w, Q e ρ w → Q' e ρ w) : W P n c Q' ρ w :=
  fun a ha b k cs hb => let ⟨e, a', w', ⟨ρ', h1, h2, h3⟩, h4⟩ := h a ha b k cs hb; ⟨e, a', w', ⟨ρ', h1, h2, hq _ _ _ h3⟩, h4⟩

theorem W.skip (h : Q .normal ρ w) : W P n .skip Q ρ w := fun a ha _ _ _ _ => ⟨.normal, a, w, ⟨ρ, ha, rfl, h⟩, .one stepR_skip⟩
theorem W.label {l : Nat} (h : Q .normal ρ w) : W P n (.label l) Q ρ w := fun a ha _ _ _ _ => ⟨.normal, a, w, ⟨ρ, ha, rfl, h⟩, .one stepR_label⟩
theorem W.exit {id : Nat} (h : Q (.exit id) ρ w) : W P n (.exit id) Q ρ w := fun a ha _ k _ _ => ⟨.exit id, a, w, ⟨ρ, ha, rfl, h⟩, k, rfl, Steps.refl _ _⟩
theorem W.ret (h : Q .ret ρ w) : W P n .ret Q ρ w := fun a ha _ k _ _ => ⟨.ret, a, w, ⟨ρ, ha, rfl, h⟩, k, Steps.refl _ _⟩

theorem W.seq {x y : Code} (J : Env → World → Prop) (hx : W P n x (thn J Q) ρ w) (hy : ∀ ρ w, J ρ w → W P n y Q ρ w) : W P n (.seq x y) Q ρ w := by
  intro a ha b k cs hb
  obtain ⟨e, a₁, w₁, ⟨ρ', h1, h2, h3⟩, harr⟩ := hx a ha b (.code y :: k) cs hb
  have pass : ∀ {e}, e ≠ Exit.normal → ArrR P (lone (b.atR a (.code x :: .code y :: k)) cs w) b (.code y :: k) cs e a₁ w₁ → ArrR P (lone (b.atR a (.code (.seq x y) :: k)) cs w) b k cs e a₁ w₁ :=
    fun he h => .of_steps (.one stepR_seq) (.pass (x := .code y) (fun _ => rfl) he h)
  cases e with
  | normal =>
    obtain ⟨e₂, a₂, w₂, hq₂, harr₂⟩ := hy ρ' w₁ h3 a₁ h1 b k cs (by rw [h2]; exact hb)
    rw [h2] at hq₂
    exact ⟨e₂, a₂, w₂, hq₂, .of_steps (.head stepR_seq harr) harr₂⟩
  | exit id => exact ⟨_, a₁, w₁, ⟨ρ', h1, h2, h3⟩, pass (by simp) harr⟩
  | ret => exact ⟨_, a₁, w₁, ⟨ρ', h1, h2, h3⟩, pass (by simp) harr⟩
  | goto l => exact harr.elim
  | panic ch => exact harr.elim
  | outgrown => exact harr.elim

/-- what comes next is walked where the first ends -/
theorem W.seq' {x y : Code} (hx : W P n x (thn (W P n y Q) Q) ρ w) : W P n (.seq x y) Q ρ w := W.seq _ hx fun _ _ h => h

theorem W.cond {c : Operand} {x y : Code} {t : Bool} (hc : ρ.ev c = .bool t) (ht : t = true → W P n x Q ρ w) (hf : t = false → W P n y Q ρ w) : W P n (.cond c x y) Q ρ w := by
  intro a ha b k cs hb
  have hs := stepR_cond (P := P) (b := b) (a := a) (k := k) (cs := cs) (w := w) (c := c) (x := x) (y := y) (t := t) (by rw [ha.eval]; exact hc)
  cases t with
  | true =>
    obtain ⟨e, a', w', h1, h2⟩ := ht rfl a ha b k cs hb
    exact ⟨e, a', w', h1, .of_steps (.one hs) h2⟩
  | false =>
    obtain ⟨e, a', w', h1, h2⟩ := hf rfl a ha b k cs hb
    exact ⟨e, a', w', h1, .of_steps (.one hs) h2⟩

theorem stepR_block' {b : Frame} {a : Act} {k : List Item} {cs : List Frame} {id : Nat} {c : Code} :
    step P (lone (b.atR a (.code (.block id c) :: k)) cs w) = .next (lone (b.atR a (.code c :: .inBlock id :: k)) cs w) :=
  step_lone_go (by simp [stepG, stepG.exec, Frame.atR])

theorem W.block {id : Nat} {c : Code} (h : W P n c (inBlk id Q) ρ w) : W P n (.block id c) Q ρ w := by
  intro a ha b k cs hb
  obtain ⟨e, a₁, w₁, ⟨ρ', h1, h2, h3⟩, harr⟩ := h a ha b (.inBlock id :: k) cs hb
  cases e with
  | normal => exact ⟨.normal, a₁, w₁, ⟨ρ', h1, h2, h3⟩, Steps.head stepR_block' (Steps.trans harr (.one stepR_inBlock))⟩
  | exit id' =>
    obtain ⟨k0, hk, hs⟩ := harr
    simp only [inBlk] at h3
    by_cases hid : id' = id
    · rw [if_pos hid] at h3
      subst hid
      exact ⟨.normal, a₁, w₁, ⟨ρ', h1, h2, h3⟩, Steps.head stepR_block' (Steps.trans hs (.one (stepR_exit (by rw [hk]; simp [exitTo]))))⟩
    · rw [if_neg hid] at h3
      refine ⟨.exit id', a₁, w₁, ⟨ρ', h1, h2, h3⟩, k0, ?_, Steps.head stepR_block' hs⟩
      rw [hk]
      have : (id == id') = false := by simp; exact fun h => hid h.symm
      simp [exitTo, this]
  | ret => obtain ⟨k0, hs⟩ := harr; exact ⟨.ret, a₁, w₁, ⟨ρ', h1, h2, h3⟩, k0, Steps.head stepR_block' hs⟩
  | goto l => exact harr.elim
  | panic ch => exact harr.elim
  | outgrown => exact harr.elim

/-- A loop: what holds at each round's head, with a number that falls. -/
theorem W.loop {c : Code} (I : Nat → Env → World → Prop) (k₀ : Nat) (h₀ : I k₀ ρ w)
    (round : ∀ k ρ w, I k ρ w → W P n c (thn (fun ρ' w' => ∃ k', k' < k ∧ I k' ρ' w') Q) ρ w) : W P n (.loop c) Q ρ w := by
  intro a ha b k cs hb
  have key : ∀ m (a : Act) (w : World) (ρ' : Env), EnvOf n ρ' a → ρ'.rd = ρ.rd → I m ρ' w →
      ∃ e a' w', lift n Q e a' w' ρ.rd ∧ ArrR P (lone (b.atR a (.code c :: .inLoop c :: k)) cs w) b k cs e a' w' := by
    intro m
    induction m using Nat.strongRecOn with
    | _ m ih =>
      intro a w ρ' ha hrd hI
      obtain ⟨e, a₁, w₁, ⟨ρ₁, h1, h2, h3⟩, harr⟩ := round m ρ' w hI a ha b (.inLoop c :: k) cs (by rw [hrd]; exact hb)
      rw [hrd] at h2
      have pass : ∀ {e}, e ≠ Exit.normal → ArrR P (lone (b.atR a (.code c :: .inLoop c :: k)) cs w) b (.inLoop c :: k) cs e a₁ w₁ → ArrR P (lone (b.atR a (.code c :: .inLoop c :: k)) cs w) b k cs e a₁ w₁ :=
        fun he h => .pass (x := .inLoop c) (fun _ => rfl) he h
      cases e with
      | normal =>
        obtain ⟨m', hlt, hI₁⟩ := h3
        obtain ⟨e₂, a₂, w₂, hq₂, harr₂⟩ := ih m' hlt a₁ w₁ ρ₁ h1 h2 hI₁
        exact ⟨e₂, a₂, w₂, hq₂, .of_steps (Steps.trans harr (.one stepR_inLoop)) harr₂⟩
      | exit id => exact ⟨_, a₁, w₁, ⟨ρ₁, h1, h2, h3⟩, pass (by simp) harr⟩
      | ret => exact ⟨_, a₁, w₁, ⟨ρ₁, h1, h2, h3⟩, pass (by simp) harr⟩
      | goto l => exact harr.elim
      | panic ch => exact harr.elim
      | outgrown => exact harr.elim
  obtain ⟨e, a', w', hq, harr⟩ := key k₀ a w ρ ha rfl h₀
  exact ⟨e, a', w', hq, .of_steps (.one stepR_loop) harr⟩
end

/-! ## Functions -/
/-- A call returns, and this holds of its result. -/
def Rets (P : Program) (f : FuncId) (args : Array Value) (w : World) (R : Value → World → Prop) : Prop :=
  Calls P f args w fun e w' => ∃ v, e = .returned v ∧ R v w'
theorem Rets.mono {P : Program} {f : FuncId} {args : Array Value} {w : World} {R R' : Value → World → Prop} (h : Rets P f args w R) (hr : ∀ v w', R v w' → R' v w') : Rets P f args w R' :=
  Calls.mono h fun _ _ ⟨v, h1, h2⟩ => ⟨v, h1, hr _ _ h2⟩

/-- what a frame of these slots hands back, if nothing is put off -/
def Res (P : Program) (rs : Array ResultVar) (ρ : Env) (w : World) (v : Value) : Prop :=
  ∀ fn tmps, fn.results = rs → (∀ t, tmps.getD t undef = ρ.f t) → (results fn tmps).run P w = .ok v w

/-- the marks are struck, one by one -/
inductive Done : List Nat → World → World → Prop
  | nil {w : World} : Done [] w w
  | cons {D : Nat} {ds : List Nat} {w w' : World} (h : w.heap[D]? = some (.deferred (some []))) (t : Done ds (w.putObj D (.deferred none)) w') : Done (D :: ds) w w'

theorem Rets.enterD {P : Program} {f : FuncId} {fn : Func} {c : Code} {args : List Value} {w : World} {R : Value → World → Prop} (n : Nat) (rs : Array ResultVar)
    (hf : P.funcs[f]? = some fn) (hb : fn.body = some c) (hn : fn.ntmps = n) (hr : fn.results = rs) (hle : args.length ≤ n)
    (h : W P n c (fun e ρ w => (e = .ret ∨ e = .normal) ∧ ∃ w', Done ρ.ds w w' ∧ ∃ v, Res P rs ρ w' v ∧ R v w') (Env.init args) w) : Rets P f args.toArray w R := by
  intro cs
  let b : Frame := { (default : Frame) with fn := f, kind := .normal, roundOf := none }
  have hE : EnvOf n (Env.init args) { tmps := args.toArray ++ Array.replicate (fn.ntmps - args.toArray.size) undef, defers := [] } := by
    refine ⟨?_, ?_, rfl⟩
    · simp [hn]; omega
    · intro t
      simp only [Env.init, Array.getD_eq_getD_getElem?, List.getD_eq_getElem?_getD]
      by_cases e : t < args.length
      · rw [Array.getElem?_append_left (by simpa using e)]; simp
      · rw [Array.getElem?_append_right (by simpa using e), List.getElem?_eq_none (by omega)]
        simp only [Array.getElem?_replicate]
        split <;> rfl
  have henter : Frame.enter P f args.toArray .normal = b.atR { tmps := args.toArray ++ Array.replicate (fn.ntmps - args.toArray.size) undef, defers := [] } [.code c] := by
    simp [Frame.enter, Frame.atR, hf, hb, b]
  obtain ⟨e, a, w₁, ⟨ρ, h1, h2, he, w₂, hd, v, hv, hR⟩, harr⟩ := h _ hE b [] cs rfl
  rw [← henter] at harr
  have hb0 : b.roundOf = none := rfl
  -- it is returning
  have hret : ∃ todo, Steps P (lone (Frame.enter P f args.toArray .normal) cs w) (lone { b.atR a todo with mode := .returning } cs w₁) := by
    rcases he with rfl | rfl
    · obtain ⟨k0, hs⟩ := harr
      exact ⟨_, hs.trans (.one (stepR_ret hb0))⟩
    · exact ⟨_, Steps.trans harr (.one (stepR_end hb0))⟩
  obtain ⟨todo, hs⟩ := hret
  have strike : ∀ (ds : List Nat) (w₁ w₂ : World), Done ds w₁ w₂ → ∀ a : Act, a.defers = ds.map markD →
      Steps P (lone { b.atR a todo with mode := .returning } cs w₁) (lone { b.atR ⟨a.tmps, []⟩ todo with mode := .returning } cs w₂) := by
    intro ds w₁ w₂ hd
    induction hd with
    | nil => intro a ha; have : a = ⟨a.tmps, []⟩ := by cases a; simp at ha; simp [ha]
             rw [← this]; exact Steps.refl _ _
    | @cons D ds w w' hD _ ih =>
      intro a ha
      have e1 : step P (lone { b.atR a todo with mode := .returning } cs w) = .next (lone { b.atR ⟨a.tmps, ds.map markD⟩ todo with mode := .returning } cs (w.putObj D (.deferred none))) := by
        refine step_lone_go ?_
        have ha' : a.defers = markD D :: ds.map markD := ha
        simp [stepG, unwind, Frame.atR, ha', markD, Sem.runT_eq, run_takeDeferred (P := P) hD]
      exact Steps.head e1 (ih ⟨a.tmps, ds.map markD⟩ rfl)
  have hs2 := hs.trans (strike ρ.ds w₁ w₂ hd a h1.defers)
  exact ⟨.returned v, w₂, _, ⟨v, rfl, hR⟩, hs2, rfl, rfl, rfl, rfl, fn, hf, hv fn a.tmps hr h1.get⟩

theorem Rets.enter {P : Program} {f : FuncId} {fn : Func} {c : Code} {args : List Value} {w : World} {R : Value → World → Prop} (n : Nat) (rs : Array ResultVar)
    (hf : P.funcs[f]? = some fn) (hb : fn.body = some c) (hn : fn.ntmps = n) (hr : fn.results = rs) (hle : args.length ≤ n)
    (h : W P n c (fun e ρ w => (e = .ret ∨ e = .normal) ∧ ∃ v, (ρ.ds = [] ∧ Res P rs ρ w v) ∧ R v w) (Env.init args) w) : Rets P f args.toArray w R :=
  Rets.enterD n rs hf hb hn hr hle (h.mono fun e ρ w ⟨he, v, ⟨hd, hv⟩, hR⟩ => ⟨he, w, by rw [hd]; exact .nil, v, hv, hR⟩)

section
variable {P : Program} {ρ : Env} {w : World}
theorem Res.none : Res P #[] ρ w (.tuple #[]) := fun _ _ h _ => by simp [results, h]
theorem Res.one {t : Nat} : Res P #[.tmp t] ρ w (ρ.f t) := fun _ _ h hg => by simp [results, h, ← hg, Array.getD_eq_getD_getElem?]
end

/-! ## Calls -/
/-- the frame that a call of this kind begins with -/
def nxFrame (P : Program) : Next → Frame
  | .enter f args => Frame.enter P f args .normal
  | .round l f tmps a b => Frame.round l f tmps a b .normal
  | _ => default
def nxCall : Next → Bool
  | .enter .. | .round .. => true
  | _ => false
/-- what is entered comes back with a value -/
def Leads (P : Program) (nx : Next) (w : World) (R : Value → World → Prop) : Prop :=
  ∀ (c : Frame) (cs : List Frame), ∃ v w', R v w' ∧ Steps P (lone (nxFrame P nx) (c :: cs) w) (lone (c.finish v) cs w')
theorem Leads.mono {P : Program} {nx : Next} {w : World} {R R' : Value → World → Prop} (h : Leads P nx w R) (hr : ∀ v w', R v w' → R' v w') : Leads P nx w R' :=
  fun c cs => let ⟨v, w', h1, h2⟩ := h c cs; ⟨v, w', hr _ _ h1, h2⟩
theorem Rets.leads {P : Program} {f : FuncId} {args : Array Value} {w : World} {R : Value → World → Prop} (h : Rets P f args w R) : Leads P (.enter f args) w R := by
  intro c cs
  obtain ⟨e, w', fr, ⟨v, rfl, hR⟩, hc, _, hl⟩ := h (c :: cs)
  exact ⟨v, w', hR, Steps.trans hc (.one (step_leave_returned hl))⟩

/-! ## One operation -/
/-- one operation of a region goes off -/
def opR (P : Program) (ops : Array Oper) (i : Nat) (K : Act → World → Prop) (a : Act) (w : World) (rd : Option Nat) : Prop :=
  ∀ (b : Frame) (rest : List Nat) (k : List Item) (cs : List Frame), b.roundOf = rd → ∃ a' w', K a' w' ∧ Steps P (lone (b.atR a (.inRegion ops (i :: rest) :: k)) cs w) (lone (b.atR a' (.inRegion ops rest :: k)) cs w')
def noDefer (o : Oper) : Bool := match o.op with
  | .defer _ => false
  | _ => true
section
variable {P : Program} {ops : Array Oper} {i : Nat} {o : Oper} {K : Act → World → Prop} {a : Act} {w w' : World} {rd : Option Nat}
theorem noDefer_ne (h : noDefer o = true) : ∀ c, o.op ≠ .defer c := fun c e => by simp [noDefer, e] at h
theorem finish_op (b : Frame) (rest : List Nat) (k : List Item) (v : Value) (ho : ops[i]? = some o) : (b.atR a (.inRegion ops (i :: rest) :: k)).finish v = b.atR (a.put o.dst v) (.inRegion ops rest :: k) := by
  rw [Frame.finish_atR, ho]; rfl
theorem opR_value (ho : ops[i]? = some o) (hnd : noDefer o = true) (hw : Region.wanted o (yielded ops a.tmps) = true) {v : Value} (hr : (execOp a.eval o).run P w = .ok (.value v) w' ∨ ((execOp a.eval o).run P w = .ok .skip w' ∧ v = undef))
    (h : K (a.put o.dst v) w') : opR P ops i K a w rd := by
  intro b rest k cs _
  refine ⟨_, _, h, .one (step_lone_go ?_)⟩
  rw [stepGR_op ho hw, ← finish_op b rest k v ho, Oper.semAt_eq _ _ _ (noDefer_ne hnd)]
  rcases hr with hr | ⟨hr, rfl⟩ <;> simp [stepG.apply, hr]
theorem opR_pass (ho : ops[i]? = some o) (hw : Region.wanted o (yielded ops a.tmps) = false) (h : K (a.put o.dst undef) w) : opR P ops i K a w rd := by
  intro b rest k cs _
  refine ⟨_, _, h, .one ?_⟩
  have hs := stepR_op_skip (P := P) (b := b) (a := a) (k := k) (cs := cs) (w := w) (ops := ops) (i := i) (rest := rest) (by simp [ho, hw])
  simp only [ho, Option.bind_some] at hs
  exact hs
theorem opR_call {nx : Next} {R : Value → World → Prop} (ho : ops[i]? = some o) (hnd : noDefer o = true) (hw : Region.wanted o (yielded ops a.tmps) = true) (hc : nxCall nx = true) (hr : (execOp a.eval o).run P w = .ok nx w)
    (hl : Leads P nx w R) (h : ∀ v w', R v w' → K (a.put o.dst v) w') : opR P ops i K a w rd := by
  intro b rest k cs _
  obtain ⟨v, w', hR, hs⟩ := hl (b.atR a (.inRegion ops (i :: rest) :: k)) cs
  refine ⟨_, _, h v w' hR, Steps.head (step_lone_go (fr' := nxFrame P nx) (cs' := b.atR a (.inRegion ops (i :: rest) :: k) :: cs) (w' := w) ?_) ?_⟩
  · rw [stepGR_op ho hw, Oper.semAt_eq _ _ _ (noDefer_ne hnd)]
    cases nx <;> simp [nxCall] at hc <;> simp [stepG.apply, hr, Frame.atR, nxFrame]
  · rw [← finish_op b rest k v ho]; exact hs
end

/-! ## Orders that are drawn -/
/-- in whatever order the edges allow -/
def anyR (P : Program) (ops : Array Oper) (Q : Act → World → Prop) (rd : Option Nat) : Nat → Array Bool → Act → World → Prop
  | 0, listed, a, w => Region.ready .any ops listed = [] ∧ Q a w
  | fuel + 1, listed, a, w => (Region.ready .any ops listed = [] → Q a w) ∧ ∀ i ∈ Region.ready .any ops listed, opR P ops i (anyR P ops Q rd fuel (listed.setIfInBounds i true)) a w rd
theorem anyR_sound {P : Program} {ops : Array Oper} {Q : Act → World → Prop} {rd : Option Nat} : ∀ (fuel t : Nat) (listed : Array Bool) (a : Act) (w : World), anyR P ops Q rd fuel listed a w →
    ∀ (b : Frame) (k : List Item) (cs : List Frame), b.roundOf = rd → ∃ a' w', Q a' w' ∧ Steps P (lone (b.atR a (.inRegion ops (Region.linearise.go .any ops fuel t listed []) :: k)) cs w) (lone (b.atR a' k) cs w') := by
  intro fuel
  induction fuel with
  | zero => intro t listed a w h b k cs _; exact ⟨a, w, h.2, .one (by simpa [Region.linearise.go] using stepR_region_end)⟩
  | succ fuel ih =>
    intro t listed a w h b k cs hb
    obtain ⟨h₀, h₁⟩ := h
    simp only [Region.linearise.go]
    change ∃ a' w', Q a' w' ∧ Steps P (lone (b.atR a (.inRegion ops (match (Region.ready .any ops listed)[t % (Region.ready .any ops listed).length]? with
      | some i => Region.linearise.go .any ops fuel (t / (Region.ready .any ops listed).length) (listed.setIfInBounds i true) [i]
      | none => [].reverse) :: k)) cs w) (lone (b.atR a' k) cs w')
    cases hi : (Region.ready .any ops listed)[t % (Region.ready .any ops listed).length]? with
    | none =>
      have hnil : Region.ready .any ops listed = [] := by
        cases hr : Region.ready .any ops listed with
        | nil => rfl
        | cons x xs =>
          rw [hr] at hi
          have hlt : t % (x :: xs).length < (x :: xs).length := Nat.mod_lt _ (by simp)
          simp at hi
          simp at hlt
          omega
      exact ⟨a, w, h₀ hnil, .one (by simpa using stepR_region_end)⟩
    | some i =>
      simp only []
      rw [linearise_go_acc, List.reverse_singleton, List.singleton_append]
      obtain ⟨a1, w1, h2, h3⟩ := h₁ i (List.mem_of_getElem? hi) b (Region.linearise.go .any ops fuel (t / (Region.ready .any ops listed).length) (listed.setIfInBounds i true) []) k cs hb
      obtain ⟨a2, w2, h4, h5⟩ := ih _ _ a1 w1 h2 b k cs hb
      exact ⟨a2, w2, h4, h3.trans h5⟩
end Tp
