/- Proved here: lemmas and walks on which the claim stands (part 1 of 7). No condition. -/
import Derived.WalkKit
import Derived.AtR
import Derived.Orders
import Derived.RangeFuncRecord
import Derived.WalkSpells
import Derived.ProofKit
import Derived.Deep.Slices
import Derived.Carry
import Derived.Below
import Derived.ChangeSame
import Derived.OpenShut
import Derived.MapKept
set_option linter.all false
namespace Tp
open Go
structure Env where
  f : Nat → Value
  ds : List Nat := []
  rd : Option Nat := none
instance : CoeFun Env (fun _ => Nat → Value) := ⟨Env.f⟩
def Env.set (ρ : Env) (t : Nat) (v : Value) : Env := ⟨fun u => if u = t then v else ρ.f u, ρ.ds, ρ.rd⟩
def Env.put (ρ : Env) : Option Nat → Value → Env
  | some t, v => ρ.set t v
  | none, _ => ρ
def Env.ev (ρ : Env) : Operand → Value
  | .tmp t => ρ.f t
  | .const v => v
  | .global g => .pointer (some ⟨g, 0, none⟩)
  | .func f => .func (.func f) #[] #[]
def Env.init (args : List Value) : Env := ⟨fun t => args.getD t undef, [], none⟩
def Env.mark (ρ : Env) (D : Nat) : Env := ⟨ρ.f, D :: ρ.ds, ρ.rd⟩
def markD (D : Nat) : Deferred := { target := .collected D, args := #[] }
structure EnvOf (n : Nat) (ρ : Env) (a : Act) : Prop where
  size : a.tmps.size = n
  get : ∀ t, a.tmps.getD t undef = ρ.f t
  defers : a.defers = ρ.ds.map markD
theorem EnvOf.eval {n : Nat} {ρ : Env} {a : Act} (h : EnvOf n ρ a) : a.eval = ρ.ev := by
  funext x
  cases x with
  | tmp t => exact h.get t
  | _ => rfl
theorem EnvOf.put {n : Nat} {ρ : Env} {a : Act} (h : EnvOf n ρ a) (d : Option Nat) (hd : d.all (· < n) = true) (v : Value) : EnvOf n (ρ.put d v) (a.put d v) := by
  cases d with
  | none => exact h
  | some d =>
    have hd' : d < n := by simpa using hd
    refine ⟨by simp [Act.put, h.size], fun t => ?_, h.defers⟩
    have := h.get t
    simp only [Act.put, Env.put, Env.set, Array.getD_eq_getD_getElem?, Array.getElem?_setIfInBounds] at *
    by_cases e : t = d
    · subst e; simp [h.size, hd']
    · rw [if_neg e, if_neg (fun e' => e e'.symm)]; exact this
@[simp] theorem Env.put_rd (ρ : Env) (d : Option Nat) (v : Value) : (ρ.put d v).rd = ρ.rd := by cases d <;> rfl
def ArrR (P : Program) (m : Machine) (b : Frame) (k : List Item) (cs : List Frame) : Exit → Act → World → Prop
  | .normal, a, w => Steps P m (lone (b.atR a k) cs w)
  | .exit id, a, w => ∃ k0, exitTo id k0 = exitTo id k ∧ Steps P m (lone (b.atR a (.code (.exit id) :: k0)) cs w)
  | .ret, a, w => ∃ k0, Steps P m (lone (b.atR a (.code .ret :: k0)) cs w)
  | _, _, _ => False
theorem ArrR.of_steps {P : Program} {m m₁ : Machine} {b : Frame} {k : List Item} {cs : List Frame} {e : Exit} {a : Act} {w : World} (h : Steps P m m₁) (h' : ArrR P m₁ b k cs e a w) : ArrR P m b k cs e a w := by
  cases e with
  | normal => exact h.trans h'
  | exit id => obtain ⟨k0, h1, h2⟩ := h'; exact ⟨k0, h1, h.trans h2⟩
  | ret => obtain ⟨k0, h2⟩ := h'; exact ⟨k0, h.trans h2⟩
  | goto l => exact h'.elim
  | panic ch => exact h'.elim
  | outgrown => exact h'.elim
theorem ArrR.pass {P : Program} {m : Machine} {b : Frame} {x : Item} {k : List Item} {cs : List Frame} {e : Exit} {a : Act} {w : World} (hx : ∀ id, exitTo id (x :: k) = exitTo id k) (he : e ≠ .normal)
    (h : ArrR P m b (x :: k) cs e a w) : ArrR P m b k cs e a w := by
  cases e with
  | normal => exact absurd rfl he
  | exit id => obtain ⟨k0, h1, h2⟩ := h; exact ⟨k0, h1.trans (hx id), h2⟩
  | ret => exact h
  | goto l => exact h
  | panic ch => exact h
  | outgrown => exact h
def lift (n : Nat) (Q : Exit → Env → World → Prop) (e : Exit) (a : Act) (w : World) (rd : Option Nat) : Prop := ∃ ρ, EnvOf n ρ a ∧ ρ.rd = rd ∧ Q e ρ w
def W (P : Program) (n : Nat) (c : Code) (Q : Exit → Env → World → Prop) (ρ : Env) (w : World) : Prop :=
  ∀ a, EnvOf n ρ a → ∀ (b : Frame) (k : List Item) (cs : List Frame), b.roundOf = ρ.rd →
    ∃ e a' w', lift n Q e a' w' ρ.rd ∧ ArrR P (lone (b.atR a (.code c :: k)) cs w) b k cs e a' w'
def thn (K : Env → World → Prop) (Q : Exit → Env → World → Prop) : Exit → Env → World → Prop
  | .normal, ρ, w => K ρ w
  | e, ρ, w => Q e ρ w
def inBlk (id : Nat) (Q : Exit → Env → World → Prop) : Exit → Env → World → Prop
  | .exit id', ρ, w => if id' = id then Q .normal ρ w else Q (.exit id') ρ w
  | e, ρ, w => Q e ρ w
section
variable {P : Program} {n : Nat} {Q : Exit → Env → World → Prop} {ρ : Env} {w : World}
theorem W.mono {c : Code} {Q' : Exit → Env → World → Prop} (h : W P n c Q ρ w) (hq : ∀ e ρ w, Q e ρ w → Q' e ρ w) : W P n c Q' ρ w :=
  fun a ha b k cs hb => let ⟨e, a', w', ⟨ρ', h1, h2, h3⟩, h4⟩ := h a ha b k cs hb; ⟨e, a', w', ⟨ρ', h1, h2, hq _ _ _ h3⟩, h4⟩
theorem W.skip (h : Q .normal ρ w) : W P n .skip Q ρ w := fun a ha _ _ _ _ => ⟨.normal, a, w, ⟨ρ, ha, rfl, h⟩, .one stepR_skip⟩
theorem W.label {l : Nat} (h : Q .normal ρ w) : W P n (.label l) Q ρ w := fun a ha _ _ _ _ => ⟨.normal, a, w, ⟨ρ, ha, rfl, h⟩, .one stepR_label⟩
theorem W.exit {id : Nat} (h : Q (.exit id) ρ w) : W P n (.exit id) Q ρ w := fun a ha _ k _ _ => ⟨.exit id, a, w, ⟨ρ, ha, rfl, h⟩, k, rfl, Steps.refl _ _⟩
theorem W.ret (h : Q .ret ρ w) : W P n .ret Q ρ w := fun a ha _ k _ _ => ⟨.ret, a, w, ⟨ρ, ha, rfl, h⟩, k, Steps.refl _ _⟩
theorem W.seq {x y : Code} (J : Env → World → Prop) (hx : W P n x (thn J Q) ρ w) (hy : ∀ ρ w, J ρ w → W P n y Q ρ w) : W P n (.seq x y) Q ρ w := by
  intro a ha b k cs hb
  obtain ⟨e, a₁, w₁, ⟨ρ', h1, h2, h3⟩, harr⟩ := hx a ha b (.code y :: k) cs hb
  have pass : ∀ {e}, e ≠ Exit.normal → ArrR P (lone (b.atR a (.code x :: .code y :: k)) cs w) b (.code y :: k) cs e a₁ w₁ → ArrR P (lone (b.atR a (.code (.seq x y) :: k)) cs w) b k cs e a₁ w₁ :=
    fun he h => .of_steps (.one stepR_seq) (.pass (x := .code y) (fun _ => rfl) he h)
  cases e with
  | normal =>
    obtain ⟨e₂, a₂, w₂, hq₂, harr₂⟩ := hy ρ' w₁ h3 a₁ h1 b k cs (by rw [h2]; exact hb)
    rw [h2] at hq₂
    exact ⟨e₂, a₂, w₂, hq₂, .of_steps (.head stepR_seq harr) harr₂⟩
  | exit id => exact ⟨_, a₁, w₁, ⟨ρ', h1, h2, h3⟩, pass (by simp) harr⟩
  | ret => exact ⟨_, a₁, w₁, ⟨ρ', h1, h2, h3⟩, pass (by simp) harr⟩
  | goto l => exact harr.elim
  | panic ch => exact harr.elim
  | outgrown => exact harr.elim
theorem W.seq' {x y : Code} (hx : W P n x (thn (W P n y Q) Q) ρ w) : W P n (.seq x y) Q ρ w := W.seq _ hx fun _ _ h => h
theorem W.cond {c : Operand} {x y : Code} {t : Bool} (hc : ρ.ev c = .bool t) (ht : t = true → W P n x Q ρ w) (hf : t = false → W P n y Q ρ w) : W P n (.cond c x y) Q ρ w := by
  intro a ha b k cs hb
  have hs := stepR_cond (P := P) (b := b) (a := a) (k := k) (cs := cs) (w := w) (c := c) (x := x) (y := y) (t := t) (by rw [ha.eval]; exact hc)
  cases t with
  | true =>
    obtain ⟨e, a', w', h1, h2⟩ := ht rfl a ha b k cs hb
    exact ⟨e, a', w', h1, .of_steps (.one hs) h2⟩
  | false =>
    obtain ⟨e, a', w', h1, h2⟩ := hf rfl a ha b k cs hb
    exact ⟨e, a', w', h1, .of_steps (.one hs) h2⟩
theorem stepR_block' {b : Frame} {a : Act} {k : List Item} {cs : List Frame} {id : Nat} {c : Code} :
    step P (lone (b.atR a (.code (.block id c) :: k)) cs w) = .next (lone (b.atR a (.code c :: .inBlock id :: k)) cs w) :=
  step_lone_go (by simp [stepG, stepG.exec, Frame.atR])
theorem W.block {id : Nat} {c : Code} (h : W P n c (inBlk id Q) ρ w) : W P n (.block id c) Q ρ w := by
  intro a ha b k cs hb
  obtain ⟨e, a₁, w₁, ⟨ρ', h1, h2, h3⟩, harr⟩ := h a ha b (.inBlock id :: k) cs hb
  cases e with
  | normal => exact ⟨.normal, a₁, w₁, ⟨ρ', h1, h2, h3⟩, Steps.head stepR_block' (Steps.trans harr (.one stepR_inBlock))⟩
  | exit id' =>
    obtain ⟨k0, hk, hs⟩ := harr
    simp only [inBlk] at h3
    by_cases hid : id' = id
    · rw [if_pos hid] at h3
      subst hid
      exact ⟨.normal, a₁, w₁, ⟨ρ', h1, h2, h3⟩, Steps.head stepR_block' (Steps.trans hs (.one (stepR_exit (by rw [hk]; simp [exitTo]))))⟩
    · rw [if_neg hid] at h3
      refine ⟨.exit id', a₁, w₁, ⟨ρ', h1, h2, h3⟩, k0, ?_, Steps.head stepR_block' hs⟩
      rw [hk]
      have : (id == id') = false := by simp; exact fun h => hid h.symm
      simp [exitTo, this]
  | ret => obtain ⟨k0, hs⟩ := harr; exact ⟨.ret, a₁, w₁, ⟨ρ', h1, h2, h3⟩, k0, Steps.head stepR_block' hs⟩
  | goto l => exact harr.elim
  | panic ch => exact harr.elim
  | outgrown => exact harr.elim
theorem W.loop {c : Code} (I : Nat → Env → World → Prop) (k₀ : Nat) (h₀ : I k₀ ρ w)
    (round : ∀ k ρ w, I k ρ w → W P n c (thn (fun ρ' w' => ∃ k', k' < k ∧ I k' ρ' w') Q) ρ w) : W P n (.loop c) Q ρ w := by
  intro a ha b k cs hb
  have key : ∀ m (a : Act) (w : World) (ρ' : Env), EnvOf n ρ' a → ρ'.rd = ρ.rd → I m ρ' w →
      ∃ e a' w', lift n Q e a' w' ρ.rd ∧ ArrR P (lone (b.atR a (.code c :: .inLoop c :: k)) cs w) b k cs e a' w' := by
    intro m
    induction m using Nat.strongRecOn with
    | _ m ih =>
      intro a w ρ' ha hrd hI
      obtain ⟨e, a₁, w₁, ⟨ρ₁, h1, h2, h3⟩, harr⟩ := round m ρ' w hI a ha b (.inLoop c :: k) cs (by rw [hrd]; exact hb)
      rw [hrd] at h2
      have pass : ∀ {e}, e ≠ Exit.normal → ArrR P (lone (b.atR a (.code c :: .inLoop c :: k)) cs w) b (.inLoop c :: k) cs e a₁ w₁ → ArrR P (lone (b.atR a (.code c :: .inLoop c :: k)) cs w) b k cs e a₁ w₁ :=
        fun he h => .pass (x := .inLoop c) (fun _ => rfl) he h
      cases e with
      | normal =>
        obtain ⟨m', hlt, hI₁⟩ := h3
        obtain ⟨e₂, a₂, w₂, hq₂, harr₂⟩ := ih m' hlt a₁ w₁ ρ₁ h1 h2 hI₁
        exact ⟨e₂, a₂, w₂, hq₂, .of_steps (Steps.trans harr (.one stepR_inLoop)) harr₂⟩
      | exit id => exact ⟨_, a₁, w₁, ⟨ρ₁, h1, h2, h3⟩, pass (by simp) harr⟩
      | ret => exact ⟨_, a₁, w₁, ⟨ρ₁, h1, h2, h3⟩, pass (by simp) harr⟩
      | goto l => exact harr.elim
      | panic ch => exact harr.elim
      | outgrown => exact harr.elim
  obtain ⟨e, a', w', hq, harr⟩ := key k₀ a w ρ ha rfl h₀
  exact ⟨e, a', w', hq, .of_steps (.one stepR_loop) harr⟩
end
def Rets (P : Program) (f : FuncId) (args : Array Value) (w : World) (R : Value → World → Prop) : Prop :=
  Calls P f args w fun e w' => ∃ v, e = .returned v ∧ R v w'
theorem Rets.mono {P : Program} {f : FuncId} {args : Array Value} {w : World} {R R' : Value → World → Prop} (h : Rets P f args w R) (hr : ∀ v w', R v w' → R' v w') : Rets P f args w R' :=
  Calls.mono h fun _ _ ⟨v, h1, h2⟩ => ⟨v, h1, hr _ _ h2⟩
def Res (P : Program) (rs : Array ResultVar) (ρ : Env) (w : World) (v : Value) : Prop :=
  ∀ fn tmps, fn.results = rs → (∀ t, tmps.getD t undef = ρ.f t) → (results fn tmps).run P w = .ok v w
inductive Done : List Nat → World → World → Prop
  | nil {w : World} : Done [] w w
  | cons {D : Nat} {ds : List Nat} {w w' : World} (h : w.heap[D]? = some (.deferred (some []))) (t : Done ds (w.putObj D (.deferred none)) w') : Done (D :: ds) w w'
theorem Rets.enterD {P : Program} {f : FuncId} {fn : Func} {c : Code} {args : List Value} {w : World} {R : Value → World → Prop} (n : Nat) (rs : Array ResultVar)
    (hf : P.funcs[f]? = some fn) (hb : fn.body = some c) (hn : fn.ntmps = n) (hr : fn.results = rs) (hle : args.length ≤ n)
    (h : W P n c (fun e ρ w => (e = .ret ∨ e = .normal) ∧ ∃ w', Done ρ.ds w w' ∧ ∃ v, Res P rs ρ w' v ∧ R v w') (Env.init args) w) : Rets P f args.toArray w R := by
  intro cs
  let b : Frame := { (default : Frame) with fn := f, kind := .normal, roundOf := none }
  have hE : EnvOf n (Env.init args) { tmps := args.toArray ++ Array.replicate (fn.ntmps - args.toArray.size) undef, defers := [] } := by
    refine ⟨?_, ?_, rfl⟩
    · simp [hn]; omega
    · intro t
      simp only [Env.init, Array.getD_eq_getD_getElem?, List.getD_eq_getElem?_getD]
      by_cases e : t < args.length
      · rw [Array.getElem?_append_left (by simpa using e)]; simp
      · rw [Array.getElem?_append_right (by simpa using e), List.getElem?_eq_none (by omega)]
        simp only [Array.getElem?_replicate]
        split <;> rfl
  have henter : Frame.enter P f args.toArray .normal = b.atR { tmps := args.toArray ++ Array.replicate (fn.ntmps - args.toArray.size) undef, defers := [] } [.code c] := by
    simp [Frame.enter, Frame.atR, hf, hb, b]
  obtain ⟨e, a, w₁, ⟨ρ, h1, h2, he, w₂, hd, v, hv, hR⟩, harr⟩ := h _ hE b [] cs rfl
  rw [← henter] at harr
  have hb0 : b.roundOf = none := rfl
  -- it is returning
  have hret : ∃ todo, Steps P (lone (Frame.enter P f args.toArray .normal) cs w) (lone { b.atR a todo with mode := .returning } cs w₁) := by
    rcases he with rfl | rfl
    · obtain ⟨k0, hs⟩ := harr
      exact ⟨_, hs.trans (.one (stepR_ret hb0))⟩
    · exact ⟨_, Steps.trans harr (.one (stepR_end hb0))⟩
  obtain ⟨todo, hs⟩ := hret
  have strike : ∀ (ds : List Nat) (w₁ w₂ : World), Done ds w₁ w₂ → ∀ a : Act, a.defers = ds.map markD →
      Steps P (lone { b.atR a todo with mode := .returning } cs w₁) (lone { b.atR ⟨a.tmps, []⟩ todo with mode := .returning } cs w₂) := by
    intro ds w₁ w₂ hd
    induction hd with
    | nil => intro a ha; have : a = ⟨a.tmps, []⟩ := by cases a; simp at ha; simp [ha]
             rw [← this]; exact Steps.refl _ _
    | @cons D ds w w' hD _ ih =>
      intro a ha
      have e1 : step P (lone { b.atR a todo with mode := .returning } cs w) = .next (lone { b.atR ⟨a.tmps, ds.map markD⟩ todo with mode := .returning } cs (w.putObj D (.deferred none))) := by
        refine step_lone_go ?_
        have ha' : a.defers = markD D :: ds.map markD := ha
        simp [stepG, unwind, Frame.atR, ha', markD, Sem.runT_eq, run_takeDeferred (P := P) hD]
      exact Steps.head e1 (ih ⟨a.tmps, ds.map markD⟩ rfl)
  have hs2 := hs.trans (strike ρ.ds w₁ w₂ hd a h1.defers)
  exact ⟨.returned v, w₂, _, ⟨v, rfl, hR⟩, hs2, rfl, rfl, rfl, rfl, fn, hf, hv fn a.tmps hr h1.get⟩
theorem Rets.enter {P : Program} {f : FuncId} {fn : Func} {c : Code} {args : List Value} {w : World} {R : Value → World → Prop} (n : Nat) (rs : Array ResultVar)
    (hf : P.funcs[f]? = some fn) (hb : fn.body = some c) (hn : fn.ntmps = n) (hr : fn.results = rs) (hle : args.length ≤ n)
    (h : W P n c (fun e ρ w => (e = .ret ∨ e = .normal) ∧ ∃ v, (ρ.ds = [] ∧ Res P rs ρ w v) ∧ R v w) (Env.init args) w) : Rets P f args.toArray w R :=
  Rets.enterD n rs hf hb hn hr hle (h.mono fun e ρ w ⟨he, v, ⟨hd, hv⟩, hR⟩ => ⟨he, w, by rw [hd]; exact .nil, v, hv, hR⟩)
section
variable {P : Program} {ρ : Env} {w : World}
theorem Res.none : Res P #[] ρ w (.tuple #[]) := fun _ _ h _ => by simp [results, h]
theorem Res.one {t : Nat} : Res P #[.tmp t] ρ w (ρ.f t) := fun _ _ h hg => by simp [results, h, ← hg, Array.getD_eq_getD_getElem?]
end
def nxFrame (P : Program) : Next → Frame
  | .enter f args => Frame.enter P f args .normal
  | .round l f tmps a b => Frame.round l f tmps a b .normal
  | _ => default
def nxCall : Next → Bool
  | .enter .. | .round .. => true
  | _ => false
def Leads (P : Program) (nx : Next) (w : World) (R : Value → World → Prop) : Prop :=
  ∀ (c : Frame) (cs : List Frame), ∃ v w', R v w' ∧ Steps P (lone (nxFrame P nx) (c :: cs) w) (lone (c.finish v) cs w')
theorem Leads.mono {P : Program} {nx : Next} {w : World} {R R' : Value → World → Prop} (h : Leads P nx w R) (hr : ∀ v w', R v w' → R' v w') : Leads P nx w R' :=
  fun c cs => let ⟨v, w', h1, h2⟩ := h c cs; ⟨v, w', hr _ _ h1, h2⟩
theorem Rets.leads {P : Program} {f : FuncId} {args : Array Value} {w : World} {R : Value → World → Prop} (h : Rets P f args w R) : Leads P (.enter f args) w R := by
  intro c cs
  obtain ⟨e, w', fr, ⟨v, rfl, hR⟩, hc, _, hl⟩ := h (c :: cs)
  exact ⟨v, w', hR, Steps.trans hc (.one (step_leave_returned hl))⟩
def opR (P : Program) (ops : Array Oper) (i : Nat) (K : Act → World → Prop) (a : Act) (w : World) (rd : Option Nat) : Prop :=
  ∀ (b : Frame) (rest : List Nat) (k : List Item) (cs : List Frame), b.roundOf = rd → ∃ a' w', K a' w' ∧ Steps P (lone (b.atR a (.inRegion ops (i :: rest) :: k)) cs w) (lone (b.atR a' (.inRegion ops rest :: k)) cs w')
def noDefer (o : Oper) : Bool := match o.op with
  | .defer _ => false
  | _ => true
section
variable {P : Program} {ops : Array Oper} {i : Nat} {o : Oper} {K : Act → World → Prop} {a : Act} {w w' : World} {rd : Option Nat}
theorem noDefer_ne (h : noDefer o = true) : ∀ c, o.op ≠ .defer c := fun c e => by simp [noDefer, e] at h
theorem finish_op (b : Frame) (rest : List Nat) (k : List Item) (v : Value) (ho : ops[i]? = some o) : (b.atR a (.inRegion ops (i :: rest) :: k)).finish v = b.atR (a.put o.dst v) (.inRegion ops rest :: k) := by
  rw [Frame.finish_atR, ho]; rfl
theorem opR_value (ho : ops[i]? = some o) (hnd : noDefer o = true) (hw : Region.wanted o (yielded ops a.tmps) = true) {v : Value} (hr : (execOp a.eval o).run P w = .ok (.value v) w' ∨ ((execOp a.eval o).run P w = .ok .skip w' ∧ v = undef))
    (h : K (a.put o.dst v) w') : opR P ops i K a w rd := by
  intro b rest k cs _
  refine ⟨_, _, h, .one (step_lone_go ?_)⟩
  rw [stepGR_op ho hw, ← finish_op b rest k v ho, Oper.semAt_eq _ _ _ (noDefer_ne hnd)]
  rcases hr with hr | ⟨hr, rfl⟩ <;> simp [stepG.apply, hr]
theorem opR_pass (ho : ops[i]? = some o) (hw : Region.wanted o (yielded ops a.tmps) = false) (h : K (a.put o.dst undef) w) : opR P ops i K a w rd := by
  intro b rest k cs _
  refine ⟨_, _, h, .one ?_⟩
  have hs := stepR_op_skip (P := P) (b := b) (a := a) (k := k) (cs := cs) (w := w) (ops := ops) (i := i) (rest := rest) (by simp [ho, hw])
  simp only [ho, Option.bind_some] at hs
  exact hs
theorem opR_call {nx : Next} {R : Value → World → Prop} (ho : ops[i]? = some o) (hnd : noDefer o = true) (hw : Region.wanted o (yielded ops a.tmps) = true) (hc : nxCall nx = true) (hr : (execOp a.eval o).run P w = .ok nx w)
    (hl : Leads P nx w R) (h : ∀ v w', R v w' → K (a.put o.dst v) w') : opR P ops i K a w rd := by
  intro b rest k cs _
  obtain ⟨v, w', hR, hs⟩ := hl (b.atR a (.inRegion ops (i :: rest) :: k)) cs
  refine ⟨_, _, h v w' hR, Steps.head (step_lone_go (fr' := nxFrame P nx) (cs' := b.atR a (.inRegion ops (i :: rest) :: k) :: cs) (w' := w) ?_) ?_⟩
  · rw [stepGR_op ho hw, Oper.semAt_eq _ _ _ (noDefer_ne hnd)]
    cases nx <;> simp [nxCall] at hc <;> simp [stepG.apply, hr, Frame.atR, nxFrame]
  · rw [← finish_op b rest k v ho]; exact hs
end
def anyR (P : Program) (ops : Array Oper) (Q : Act → World → Prop) (rd : Option Nat) : Nat → Array Bool → Act → World → Prop
  | 0, listed, a, w => Region.ready .any ops listed = [] ∧ Q a w
  | fuel + 1, listed, a, w => (Region.ready .any ops listed = [] → Q a w) ∧ ∀ i ∈ Region.ready .any ops listed, opR P ops i (anyR P ops Q rd fuel (listed.setIfInBounds i true)) a w rd
theorem anyR_sound {P : Program} {ops : Array Oper} {Q : Act → World → Prop} {rd : Option Nat} : ∀ (fuel t : Nat) (listed : Array Bool) (a : Act) (w : World), anyR P ops Q rd fuel listed a w →
    ∀ (b : Frame) (k : List Item) (cs : List Frame), b.roundOf = rd → ∃ a' w', Q a' w' ∧ Steps P (lone (b.atR a (.inRegion ops (Region.linearise.go .any ops fuel t listed []) :: k)) cs w) (lone (b.atR a' k) cs w') := by
  intro fuel
  induction fuel with
  | zero => intro t listed a w h b k cs _; exact ⟨a, w, h.2, .one (by simpa [Region.linearise.go] using stepR_region_end)⟩
  | succ fuel ih =>
    intro t listed a w h b k cs hb
    obtain ⟨h₀, h₁⟩ := h
    simp only [Region.linearise.go]
    change ∃ a' w', Q a' w' ∧ Steps P (lone (b.atR a (.inRegion ops (match (Region.ready .any ops listed)[t % (Region.ready .any ops listed).length]? with
      | some i => Region.linearise.go .any ops fuel (t / (Region.ready .any ops listed).length) (listed.setIfInBounds i true) [i]
      | none => [].reverse) :: k)) cs w) (lone (b.atR a' k) cs w')
    cases hi : (Region.ready .any ops listed)[t % (Region.ready .any ops listed).length]? with
    | none =>
      have hnil : Region.ready .any ops listed = [] := by
        cases hr : Region.ready .any ops listed with
        | nil => rfl
        | cons x xs =>
          rw [hr] at hi
          have hlt : t % (x :: xs).length < (x :: xs).length := Nat.mod_lt _ (by simp)
          simp at hi
          simp at hlt
          omega
      exact ⟨a, w, h₀ hnil, .one (by simpa using stepR_region_end)⟩
    | some i =>
      simp only []
      rw [linearise_go_acc, List.reverse_singleton, List.singleton_append]
      obtain ⟨a1, w1, h2, h3⟩ := h₁ i (List.mem_of_getElem? hi) b (Region.linearise.go .any ops fuel (t / (Region.ready .any ops listed).length) (listed.setIfInBounds i true) []) k cs hb
      obtain ⟨a2, w2, h4, h5⟩ := ih _ _ a1 w1 h2 b k cs hb
      exact ⟨a2, w2, h4, h3.trans h5⟩
end Tp
namespace Tp
open Go
structure Mod (X : Nat → Prop) (w w' : World) : Prop where
  os : w'.os = w.os
  tape : w'.tape = w.tape
  output : w'.output = w.output
  size : w.heap.size ≤ w'.heap.size
  block : ∀ b, b < w.heap.size → ¬ X b → w'.heap[b]? = w.heap[b]?
  drawn : w.drawn ≤ w'.drawn
abbrev Old (w w' : World) : Prop := Mod (fun _ => False) w w'
namespace Mod
variable {X Y : Nat → Prop} {w w' w'' : World}
theorem refl (X : Nat → Prop) (w : World) : Mod X w w := ⟨rfl, rfl, rfl, Nat.le_refl _, fun _ _ _ => rfl, Nat.le_refl _⟩
theorem trans (h : Mod X w w') (h' : Mod Y w' w'') (hY : ∀ b, b < w.heap.size → Y b → X b) : Mod X w w'' :=
  ⟨h'.os.trans h.os, h'.tape.trans h.tape, h'.output.trans h.output, Nat.le_trans h.size h'.size, fun b hb hx =>
    (h'.block b (Nat.lt_of_lt_of_le hb h.size) (fun hy => hx (hY b hb hy))).trans (h.block b hb hx), Nat.le_trans h.drawn h'.drawn⟩
theorem mono (h : Mod X w w') (hX : ∀ b, b < w.heap.size → X b → Y b) : Mod Y w w' :=
  ⟨h.os, h.tape, h.output, h.size, fun b hb hy => h.block b hb fun hx => hy (hX b hb hx), h.drawn⟩
end Mod
theorem Old.then {X : Nat → Prop} {w w' w'' : World} (h : Mod X w w') (h' : Old w' w'') : Mod X w w'' := h.trans h' fun _ _ h => h.elim
def World.blkSet (w : World) (b : Nat) (o : Obj) : World := { w with heap := w.heap.setIfInBounds b o }
theorem push_old (w : World) (o : Obj) : Old w (w.alloc o) :=
  ⟨rfl, rfl, rfl, by simp, fun b hb _ => heap_alloc_old w o hb, Nat.le_refl _⟩
theorem push_new (w : World) (o : Obj) : (w.alloc o).heap[w.heap.size]? = some o := heap_alloc_new w o
theorem tick_old (w : World) : Old w (w.drew) := ⟨rfl, rfl, rfl, Nat.le_refl _, fun _ _ _ => rfl, Nat.le_succ _⟩
theorem blkSet_mod (w : World) (b : Nat) (o : Obj) : Mod (· = b) w (World.blkSet w b o) :=
  ⟨rfl, rfl, rfl, by simp [World.blkSet], fun k _ hk => by simp only [World.blkSet]; rw [Array.getElem?_setIfInBounds_ne (fun e => hk e.symm)], Nat.le_refl _⟩
theorem blkSet_at {w : World} {b : Nat} (o : Obj) (h : b < w.heap.size) : (World.blkSet w b o).heap[b]? = some o := by
  simp [World.blkSet, h]
@[simp] theorem blkSet_size (w : World) (b : Nat) (o : Obj) : (World.blkSet w b o).heap.size = w.heap.size := by simp [World.blkSet]
theorem lt_of_blk {w : World} {b : Nat} {o : Obj} (h : w.heap[b]? = some o) : b < w.heap.size := (Array.getElem?_eq_some_iff.1 h).1
theorem cell_blk {w : World} {b : Nat} {c : Array Value} {e : TypeId} {fz : Nat × Nat} (h : w.heap[b]? = some (.cells c e fz)) (i : Nat) : w.cell? ⟨b, i, none⟩ = c[i]? := by
  simp [World.cell?, h]
theorem frozen_blk {w : World} {b : Nat} {c : Array Value} {e : TypeId} (h : w.heap[b]? = some (.cells c e (0, 0))) (i : Nat) : w.frozen? ⟨b, i, none⟩ = false := by
  simp [World.frozen?, h]
theorem setCell_blk {w : World} {b : Nat} {c : Array Value} {e : TypeId} {fz : Nat × Nat} (h : w.heap[b]? = some (.cells c e fz)) (i : Nat) (v : Value) :
    w.setCell ⟨b, i, none⟩ v = World.blkSet w b (.cells (c.setIfInBounds i v) e fz) := by
  have hb := lt_of_blk h
  have hg : w.heap[b] = .cells c e fz := by simpa [Array.getElem?_eq_getElem hb] using h
  simp only [World.setCell, World.blkSet, World.mk.injEq, and_true]
  apply Array.ext
  · simp
  · intro k h1 h2
    rw [Array.getElem_modify, Array.getElem_setIfInBounds (by simpa using h2)]
    split
    · rename_i e; subst e; simp [hg]
    · rfl
structure Chunk where
  foot : Nat → Prop
  inv : World → Prop
structure Chunk.Ok (c : Chunk) (w : World) : Prop where
  lt : ∀ b, c.foot b → b < w.heap.size
  loc : ∀ w', (∀ b, c.foot b → w'.heap[b]? = w.heap[b]?) → c.inv w'
theorem Chunk.Ok.inv {c : Chunk} {w : World} (h : c.Ok w) : c.inv w := h.loc w fun _ _ => rfl
theorem Chunk.Ok.keep {c : Chunk} {w w' : World} (h : c.Ok w) (hs : w.heap.size ≤ w'.heap.size) (he : ∀ b, c.foot b → w'.heap[b]? = w.heap[b]?) : c.Ok w' :=
  ⟨fun b hb => Nat.lt_of_lt_of_le (h.lt b hb) hs, fun _ h' => h.loc _ fun b hb => (h' b hb).trans (he b hb)⟩
def blk (b : Nat) (o : Obj) : Chunk := ⟨(· = b), fun w => w.heap[b]? = some o⟩
theorem blk_ok {w : World} {b : Nat} {o : Obj} (h : w.heap[b]? = some o) : (blk b o).Ok w :=
  ⟨fun _ e => by rw [show _ = b from e]; exact lt_of_blk h, fun _ h' => (h' b rfl).trans h⟩
def Sh (F : Nat → Prop) (r : World → Prop) (w : World) : Prop :=
  ∃ G : Nat → Prop, (∀ b, G b → F b) ∧ (∀ b, G b → b < w.heap.size) ∧ ∀ w', (∀ b, G b → w'.heap[b]? = w.heap[b]?) → r w'
namespace Sh
variable {F F' : Nat → Prop} {r r' r'' : World → Prop} {w w' : World}
theorem now (h : Sh F r w) : r w := let ⟨_, _, _, h3⟩ := h; h3 w fun _ _ => rfl
theorem pure (h : ∀ w, r w) : Sh F r w := ⟨fun _ => False, fun _ h => h.elim, fun _ h => h.elim, fun w' _ => h w'⟩
theorem keep (h : Sh F r w) (hs : w.heap.size ≤ w'.heap.size) (he : ∀ b, F b → b < w.heap.size → w'.heap[b]? = w.heap[b]?) (hF : ∀ b, F b → b < w.heap.size → F' b) : Sh F' r w' := by
  obtain ⟨G, h1, h2, h3⟩ := h
  exact ⟨G, fun b hb => hF b (h1 b hb) (h2 b hb), fun b hb => Nat.lt_of_lt_of_le (h2 b hb) hs, fun w'' h' => h3 w'' fun b hb => (h' b hb).trans (he b (h1 b hb) (h2 b hb))⟩
theorem mono (h : Sh F r w) (hF : ∀ b, F b → b < w.heap.size → F' b) : Sh F' r w := h.keep (Nat.le_refl _) (fun _ _ _ => rfl) hF
theorem imp (h : Sh F r w) (hr : ∀ w, r w → r' w) : Sh F r' w := let ⟨G, h1, h2, h3⟩ := h; ⟨G, h1, h2, fun w' h' => hr _ (h3 w' h')⟩
theorem and (h : Sh F r w) (h' : Sh F r' w) : Sh F (fun w => r w ∧ r' w) w := by
  obtain ⟨G, h1, h2, h3⟩ := h
  obtain ⟨G', h1', h2', h3'⟩ := h'
  exact ⟨fun b => G b ∨ G' b, fun b hb => hb.elim (h1 b) (h1' b), fun b hb => hb.elim (h2 b) (h2' b), fun w' hw => ⟨h3 w' fun b hb => hw b (.inl hb), h3' w' fun b hb => hw b (.inr hb)⟩⟩
theorem imp2 (h : Sh F r w) (h' : Sh F r' w) (hr : ∀ w, r w → r' w → r'' w) : Sh F r'' w := (h.and h').imp fun w ⟨a, b⟩ => hr w a b
theorem all {α : Type} {p : α → World → Prop} {l : List α} (h : ∀ x, x ∈ l → Sh F (p x) w) : Sh F (fun w => ∀ x, x ∈ l → p x w) w := by
  induction l with
  | nil => exact pure fun _ _ h => by cases h
  | cons y l ih =>
    refine imp2 (h y (by simp)) (ih fun x hx => h x (by simp [hx])) fun w h1 h2 x hx => ?_
    rcases List.mem_cons.1 hx with rfl | hx
    · exact h1
    · exact h2 x hx
theorem blk {b : Nat} {o : Obj} (h : w.heap[b]? = some o) (hF : F b) : Sh F (fun w => w.heap[b]? = some o) w :=
  ⟨(· = b), fun _ e => by rw [show _ = b from e]; exact hF, fun _ e => by rw [show _ = b from e]; exact lt_of_blk h, fun _ h' => (h' b rfl).trans h⟩
theorem of_chunk {c : Chunk} (h : c.Ok w) (hF : ∀ b, c.foot b → F b) : Sh F c.inv w := ⟨c.foot, hF, h.lt, h.loc⟩
end Sh
def avoid (L : List Chunk) (b : Nat) : Prop := ∀ c, c ∈ L → ¬ c.foot b
structure Mem (F X : Nat → Prop) (w0 : World) (L : List Chunk) (R : List (World → Prop)) (w : World) : Prop where
  mod : Mod X w0 w
  ok : ∀ c, c ∈ L → c.Ok w
  disj : L.Pairwise fun c d => ∀ b, c.foot b → ¬ d.foot b
  in_ : ∀ c, c ∈ L → ∀ b, c.foot b → X b ∨ w0.heap.size ≤ b
  sh : ∀ r, r ∈ R → Sh (fun b => (F b ∨ w0.heap.size ≤ b) ∧ avoid L b) r w
theorem getElem?_set_mem {α : Type} {l : List α} {i : Nat} {a x : α} (h : x ∈ l.set i a) : x = a ∨ ∃ j, j ≠ i ∧ l[j]? = some x := by
  obtain ⟨j, hj⟩ := List.getElem?_of_mem h
  by_cases e : i = j
  · subst e
    rw [List.getElem?_set_self'] at hj
    cases hl : l[i]? with
    | none => simp [hl] at hj
    | some y => simp [hl] at hj; exact .inl hj.symm
  · rw [List.getElem?_set_ne e] at hj
    exact .inr ⟨j, fun h => e h.symm, hj⟩
namespace Mem
variable {F X : Nat → Prop} {w0 w w' : World} {L : List Chunk} {R : List (World → Prop)}
theorem start (w : World) (hR : ∀ r, r ∈ R → Sh F r w) : Mem F X w [] R w :=
  ⟨Mod.refl _ _, fun _ h => (by cases h), List.Pairwise.nil, fun _ h => (by cases h), fun r hr => (hR r hr).mono fun _ hb _ => ⟨.inl hb, fun _ h => (by cases h)⟩⟩
theorem rep (M : Mem F X w0 L R w) (i : Nat) {r : World → Prop} (h : R[i]? = some r) : r w := (M.sh r (List.mem_of_getElem? h)).now
theorem shr (M : Mem F X w0 L R w) (i : Nat) {r : World → Prop} (h : R[i]? = some r) : Sh (fun b => (F b ∨ w0.heap.size ≤ b) ∧ avoid L b) r w := M.sh r (List.mem_of_getElem? h)
theorem chunk (M : Mem F X w0 L R w) (i : Nat) {c : Chunk} (h : L[i]? = some c) : c.Ok w := M.ok c (List.mem_of_getElem? h)
theorem blk (M : Mem F X w0 L R w) (i : Nat) {b : Nat} {o : Obj} (h : L[i]? = some (Tp.blk b o)) : w.heap[b]? = some o := (M.chunk i h).inv
theorem cell (M : Mem F X w0 L R w) (i : Nat) {b : Nat} {c : Array Value} {e : TypeId} {fz : Nat × Nat} (h : L[i]? = some (Tp.blk b (.cells c e fz))) (k : Nat) : w.cell? ⟨b, k, none⟩ = c[k]? := cell_blk (M.blk i h) k
theorem old (M : Mem F X w0 L R w) (h : Old w w') : Mem F X w0 L R w' :=
  ⟨M.mod.trans h fun _ _ h => h.elim, fun c hc => (M.ok c hc).keep h.size fun b hb => h.block b ((M.ok c hc).lt b hb) id, M.disj, M.in_,
    fun r hr => (M.sh r hr).keep h.size (fun b _ hb => h.block b hb id) fun _ hb _ => hb⟩
theorem tick (M : Mem F X w0 L R w) : Mem F X w0 L R w.drew := M.old (tick_old w)
theorem add (M : Mem F X w0 L R w) {r : World → Prop} (h : Sh (fun b => (F b ∨ w0.heap.size ≤ b) ∧ avoid L b) r w) : Mem F X w0 L (r :: R) w :=
  ⟨M.mod, M.ok, M.disj, M.in_, fun r' hr => by
    rcases List.mem_cons.1 hr with rfl | hr
    · exact h
    · exact M.sh _ hr⟩
theorem facts (M : Mem F X w0 L R w) {R' : List (World → Prop)} (h : ∀ r, r ∈ R' → Sh (fun b => (F b ∨ w0.heap.size ≤ b) ∧ avoid L b) r w) : Mem F X w0 L R' w := ⟨M.mod, M.ok, M.disj, M.in_, h⟩
theorem sub (M : Mem F X w0 L R w) {L' : List Chunk} {R' : List (World → Prop)} (hL : L'.Sublist L) (hR : ∀ r, r ∈ R' → r ∈ R) : Mem F X w0 L' R' w :=
  ⟨M.mod, fun c hc => M.ok c (hL.subset hc), M.disj.sublist hL, fun c hc => M.in_ c (hL.subset hc), fun r hr => (M.sh r (hR r hr)).mono fun _ hb _ => ⟨hb.1, fun c hc => hb.2 c (hL.subset hc)⟩⟩
theorem own (M : Mem F X w0 L R w) (h : Old w w') {c : Chunk} (hc : c.Ok w') (hn : ∀ b, c.foot b → w.heap.size ≤ b) : Mem F X w0 (c :: L) R w' := by
  refine ⟨M.mod.trans h fun _ _ h => h.elim, ?_, ?_, ?_, ?_⟩
  · intro d hd
    rcases List.mem_cons.1 hd with rfl | hd
    · exact hc
    · exact (M.ok d hd).keep h.size fun b hb => h.block b ((M.ok d hd).lt b hb) id
  · refine List.pairwise_cons.2 ⟨fun d hd b hb hb' => ?_, M.disj⟩
    have h1 := hn b hb
    have h2 := (M.ok d hd).lt b hb'
    omega
  · intro d hd b hb
    rcases List.mem_cons.1 hd with rfl | hd
    · exact .inr (Nat.le_trans M.mod.size (hn b hb))
    · exact M.in_ d hd b hb
  · intro r hr
    refine (M.sh r hr).keep h.size (fun b _ hb => h.block b hb id) fun b hb hlt => ⟨hb.1, fun d hd => ?_⟩
    rcases List.mem_cons.1 hd with rfl | hd
    · exact fun hf => by have := hn b hf; omega
    · exact hb.2 d hd
theorem push (M : Mem F X w0 L R w) (o : Obj) : Mem F X w0 (Tp.blk w.heap.size o :: L) R (w.alloc o) :=
  M.own (push_old w o) (blk_ok (push_new w o)) fun _ hb => Nat.le_of_eq (Eq.symm hb)
theorem disj_ne (M : Mem F X w0 L R w) {i j : Nat} {c d : Chunk} (hi : L[i]? = some c) (hj : L[j]? = some d) (hne : i ≠ j) : ∀ b, c.foot b → ¬ d.foot b := by
  have hp := List.pairwise_iff_getElem.1 M.disj
  obtain ⟨h1, e1⟩ := List.getElem?_eq_some_iff.1 hi
  obtain ⟨h2, e2⟩ := List.getElem?_eq_some_iff.1 hj
  intro b hb hb'
  rcases Nat.lt_or_gt_of_ne hne with h | h
  · exact hp i j h1 h2 h b (e1 ▸ hb) (e2 ▸ hb')
  · exact hp j i h2 h1 h b (e2 ▸ hb') (e1 ▸ hb)
theorem turn (M : Mem F X w0 L R w) (i : Nat) {c c' : Chunk} (hi : L[i]? = some c) (h : Mod c.foot w w') (hc : c'.Ok w') (hf : ∀ b, c'.foot b → c.foot b ∨ w.heap.size ≤ b) :
    Mem F X w0 (L.set i c') R w' := by
  have hcm : c ∈ L := List.mem_of_getElem? hi
  have hlt : i < L.length := (List.getElem?_eq_some_iff.1 hi).1
  refine ⟨M.mod.trans h fun b hb hx => (M.in_ c hcm b hx).resolve_right (by omega), ?_, ?_, ?_, ?_⟩
  · intro d hd
    rcases getElem?_set_mem hd with rfl | ⟨j, hj, hd⟩
    · exact hc
    · have hdo := M.ok d (List.mem_of_getElem? hd)
      exact hdo.keep h.size fun b hb => h.block b (hdo.lt b hb) fun hx => M.disj_ne hi hd hj.symm b hx hb
  · rw [List.pairwise_iff_getElem]
    intro j k hj hk hjk b hb hb'
    rw [List.length_set] at hj hk
    rw [List.getElem_set] at hb hb'
    have hp := List.pairwise_iff_getElem.1 M.disj
    by_cases ej : i = j
    · subst ej
      rw [if_pos rfl] at hb
      rw [if_neg (by omega)] at hb'
      rcases hf b hb with h1 | h1
      · exact M.disj_ne hi (List.getElem?_eq_getElem hk) (by omega) b h1 hb'
      · have := (M.ok _ (List.getElem_mem hk)).lt b hb'; omega
    · rw [if_neg ej] at hb
      by_cases ek : i = k
      · subst ek
        rw [if_pos rfl] at hb'
        rcases hf b hb' with h1 | h1
        · exact M.disj_ne (List.getElem?_eq_getElem hj) hi (by omega) b hb h1
        · have := (M.ok _ (List.getElem_mem hj)).lt b hb; omega
      · rw [if_neg ek] at hb'
        exact hp j k hj hk hjk b hb hb'
  · intro d hd b hb
    rcases getElem?_set_mem hd with rfl | ⟨j, _, hd⟩
    · rcases hf b hb with h1 | h1
      · exact M.in_ c hcm b h1
      · exact .inr (Nat.le_trans M.mod.size h1)
    · exact M.in_ d (List.mem_of_getElem? hd) b hb
  · intro r hr
    refine (M.sh r hr).keep h.size (fun b hb hlt' => h.block b hlt' (hb.2 c hcm)) fun b hb hlt' => ⟨hb.1, fun d hd hdf => ?_⟩
    rcases getElem?_set_mem hd with rfl | ⟨j, _, hd⟩
    · rcases hf b hdf with h1 | h1
      · exact hb.2 c hcm h1
      · omega
    · exact hb.2 d (List.mem_of_getElem? hd) hdf
theorem setBlk (M : Mem F X w0 L R w) (i : Nat) {b : Nat} {o : Obj} (o' : Obj) (hi : L[i]? = some (Tp.blk b o)) : Mem F X w0 (L.set i (Tp.blk b o')) R (World.blkSet w b o') :=
  M.turn i hi (blkSet_mod w b o') (blk_ok (blkSet_at o' (lt_of_blk (M.blk i hi)))) fun _ h => .inl h
theorem freeze (M : Mem F X w0 L R w) (i : Nat) {c : Chunk} (hi : L[i]? = some c) (hF : ∀ b, c.foot b → F b ∨ w0.heap.size ≤ b) : Mem F X w0 (L.eraseIdx i) (c.inv :: R) w := by
  have hcm : c ∈ L := List.mem_of_getElem? hi
  have hs : (L.eraseIdx i).Sublist L := List.eraseIdx_sublist ..
  refine (M.sub hs fun r h => h).add (Sh.of_chunk (M.ok c hcm) fun b hb => ⟨hF b hb, fun d hd hdf => ?_⟩)
  obtain ⟨j, hj⟩ := List.getElem?_of_mem hd
  rw [List.getElem?_eraseIdx] at hj
  split at hj
  · exact M.disj_ne hi hj (by omega) b hb hdf
  · exact M.disj_ne hi hj (by omega) b hb hdf
end Mem
end Tp
namespace Tp
open Go
def Step (P : Program) (op : Op) (ty : TypeId) (ρ : Env) (w : World) (v : Value) (w' : World) : Prop :=
  ∀ d pos aft g, (execOp ρ.ev ⟨d, op, ty, pos, aft, g⟩).run P w = .ok (.value v) w' ∨ ((execOp ρ.ev ⟨d, op, ty, pos, aft, g⟩).run P w = .ok .skip w' ∧ v = undef)
def Env.want (ρ : Env) (ops : Array Oper) : Option (Nat × Bool) → Bool
  | none => true
  | some (j, b) =>
    match (ops[j]?).bind (·.dst) with
    | some d => (match ρ.f d with | .bool c => c == b | _ => false)
    | none => false
theorem EnvOf.yielded {n : Nat} {ρ : Env} {a : Act} (h : EnvOf n ρ a) (ops : Array Oper) (o : Oper) : Region.wanted o (yielded ops a.tmps) = ρ.want ops o.guard := by
  unfold Region.wanted Env.want
  cases hg : o.guard with
  | none => rfl
  | some p =>
    obtain ⟨j, b⟩ := p
    simp only [Go.yielded]
    cases hd : (ops[j]?).bind (·.dst) with
    | none => simp
    | some d =>
      have := h.get d
      simp only [Option.bind_some]
      rw [← this, Array.getD_eq_getD_getElem?]
      cases a.tmps[d]? with
      | none => simp [undef]
      | some v => cases v <;> simp
def dstOk (n : Nat) (l : List Oper) : Bool := l.all fun o => o.dst.all (· < n) && noDefer o
def WL (P : Program) (n : Nat) (ops : Array Oper) (rest : List Oper) (Q : Exit → Env → World → Prop) (ρ : Env) (w : World) : Prop :=
  dstOk n rest = true → ∀ a, EnvOf n ρ a → ∀ is : List Nat, is.map (fun i : Nat => ops[i]?) = rest.map some → ∀ (b : Frame) (k : List Item) (cs : List Frame), b.roundOf = ρ.rd →
    ∃ e a' w', lift n Q e a' w' ρ.rd ∧ ArrR P (lone (b.atR a (.inRegion ops is :: k)) cs w) b k cs e a' w'
section
variable {P : Program} {n : Nat} {Q : Exit → Env → World → Prop} {ρ : Env} {w : World} {ops : Array Oper} {rest : List Oper}
theorem W.region {id : Nat} {l : List Oper} (hd : dstOk n l = true) (h : WL P n l.toArray l Q ρ w) : W P n (.region id l.toArray false) Q ρ w := by
  intro a ha b k cs hb
  have hm : (List.range l.toArray.size).map (fun i : Nat => l.toArray[i]?) = l.map some := by
    apply List.ext_getElem?
    intro i
    rw [List.getElem?_map, List.getElem?_map]
    by_cases hi : i < l.length
    · rw [List.getElem?_eq_getElem (by simpa using hi)]; simp [hi]
    · rw [List.getElem?_eq_none (by simp; omega), List.getElem?_eq_none (by omega)]; rfl
  obtain ⟨e, a', w', h1, h2⟩ := h hd a ha _ hm b k cs hb
  exact ⟨e, a', w', h1, .of_steps (.one stepR_region) h2⟩
theorem WL.nil (h : Q .normal ρ w) : WL P n ops [] Q ρ w := by
  intro _ a ha is hm b k cs hb
  have : is = [] := by cases is <;> simp at hm ⊢
  subst this
  exact ⟨.normal, a, w, ⟨ρ, ha, rfl, h⟩, .one stepR_region_end⟩
theorem WL.opR {o : Oper} (h : dstOk n (o :: rest) = true → ∀ a, EnvOf n ρ a → ∀ i : Nat, ops[i]? = some o → opR P ops i (fun a' w' => ∃ ρ', EnvOf n ρ' a' ∧ ρ'.rd = ρ.rd ∧ WL P n ops rest Q ρ' w') a w ρ.rd) : WL P n ops (o :: rest) Q ρ w := by
  intro hd a ha is hm b k cs hb
  cases is with
  | nil => simp at hm
  | cons i is =>
    simp only [List.map_cons, List.cons.injEq] at hm
    obtain ⟨a', w', ⟨ρ', h1, h2, h3⟩, hs⟩ := h hd a ha i hm.1 b is k cs hb
    have hd' : dstOk n rest = true := by simp only [dstOk, List.all_cons, Bool.and_eq_true] at hd ⊢; exact hd.2
    obtain ⟨e, a2, w2, h4, h5⟩ := h3 hd' a' h1 is hm.2 b k cs (by rw [h2]; exact hb)
    rw [h2] at h4
    exact ⟨e, a2, w2, h4, .of_steps hs h5⟩
theorem dstOk_head {o : Oper} (h : dstOk n (o :: rest) = true) : o.dst.all (· < n) = true ∧ noDefer o = true := by
  simp only [dstOk, List.all_cons, Bool.and_eq_true] at h; exact h.1
theorem WL.step {d : Option Nat} {op : Op} {ty : TypeId} {pos : String} {aft : Array Edge} {g : Option (Nat × Bool)} {v : Value} {w' : World} (hg : ρ.want ops g = true)
    (h : Step P op ty ρ w v w') (k : WL P n ops rest Q (ρ.put d v) w') : WL P n ops (⟨d, op, ty, pos, aft, g⟩ :: rest) Q ρ w := by
  refine WL.opR fun hd a ha i hi => ?_
  obtain ⟨h1, h2⟩ := dstOk_head hd
  refine opR_value (v := v) hi h2 (by rw [ha.yielded]; exact hg) (by rw [ha.eval]; exact h d pos aft g) ⟨_, ha.put d h1 v, Env.put_rd .., k⟩
theorem WL.pass {d : Option Nat} {op : Op} {ty : TypeId} {pos : String} {aft : Array Edge} {g : Option (Nat × Bool)} (hg : ρ.want ops g = false)
    (k : WL P n ops rest Q (ρ.put d undef) w) : WL P n ops (⟨d, op, ty, pos, aft, g⟩ :: rest) Q ρ w := by
  refine WL.opR fun hd a ha i hi => ?_
  obtain ⟨h1, h2⟩ := dstOk_head hd
  exact opR_pass hi (by rw [ha.yielded]; exact hg) ⟨_, ha.put d h1 undef, Env.put_rd .., k⟩
def Enters (P : Program) (f : FuncId) : Prop := ∀ args w, (callFunc f args).run P w = .ok (.enter f args) w
def CallsF (P : Program) (op : Op) (ty : TypeId) (ρ : Env) (w : World) (f : FuncId) (args : Array Value) : Prop :=
  ∀ d pos aft g, (execOp ρ.ev ⟨d, op, ty, pos, aft, g⟩).run P w = .ok (.enter f args) w
theorem CallsF.func {c : Array Operand} {ts : Array TypeId} {ty : TypeId} {f : FuncId} {args : List Value} (he : Enters P f) (ha : c.toList.map ρ.ev = args) :
    CallsF P (.call { callee := .value (.func f), args := c, argTypes := ts }) ty ρ w f args.toArray := by
  intro d pos aft g
  have := he args.toArray w
  have hc : c.map ρ.ev = args.toArray := Array.ext' (by rw [Array.toList_map, ha])
  simp only [execOp, resolve, Env.ev, Deferred.ofValue, invoke, hc, Sem.run_bind, Sem.run_pure, Result.andThen_ok, Array.append_empty, Array.empty_append, this]
theorem CallsF.value {c : Array Operand} {ts : Array TypeId} {ty : TypeId} {x : Operand} {f : FuncId} {first captured : Array Value} {args ar_ : List Value} (he : Enters P f)
    (hx : ρ.ev x = .func (.func f) first captured) (ha : c.toList.map ρ.ev = ar_) (hargs : first.toList ++ ar_ ++ captured.toList = args) :
    CallsF P (.call { callee := .value x, args := c, argTypes := ts }) ty ρ w f args.toArray := by
  intro d pos aft g
  have := he args.toArray w
  have hc : c.map ρ.ev = ar_.toArray := Array.ext' (by rw [Array.toList_map, ha])
  have hh : first ++ ar_.toArray ++ captured = args.toArray := Array.ext' (by rw [← hargs]; simp)
  simp only [execOp, resolve, hx, Deferred.ofValue, invoke, hc, Sem.run_bind, Sem.run_pure, Result.andThen_ok, hh, this]
def CallsN (P : Program) (op : Op) (ty : TypeId) (ρ : Env) (w : World) (nx : Next) : Prop :=
  ∀ d pos aft g, (execOp ρ.ev ⟨d, op, ty, pos, aft, g⟩).run P w = .ok nx w
def vcall (y : Value) (args : Array Value) : Sem Next := do let d ← Deferred.ofValue y args; invoke d.target d.args
def RetsV (P : Program) (y : Value) (args : Array Value) (w : World) (R : Value → World → Prop) : Prop := ∃ nx, nxCall nx = true ∧ (vcall y args).run P w = .ok nx w ∧ Leads P nx w R
theorem RetsV.mono {y : Value} {args : Array Value} {R R' : Value → World → Prop} (h : RetsV P y args w R) (hr : ∀ v w', R v w' → R' v w') : RetsV P y args w R' :=
  let ⟨nx, h1, h2, h3⟩ := h; ⟨nx, h1, h2, h3.mono hr⟩
theorem RetsV.of_rets {f : FuncId} {first captured : Array Value} {mid args : List Value} {R : Value → World → Prop} (he : Enters P f) (hargs : first.toList ++ mid ++ captured.toList = args) (h : Rets P f args.toArray w R) : RetsV P (.func (.func f) first captured) mid.toArray w R := by
  refine ⟨.enter f args.toArray, rfl, ?_, h.leads⟩
  have := he args.toArray w
  have hh : first ++ mid.toArray ++ captured = args.toArray := Array.ext' (by rw [← hargs]; simp)
  simp only [vcall, Deferred.ofValue, invoke, Sem.run_bind, Sem.run_pure, Result.andThen_ok, hh, this]
theorem CallsN.value {c : Array Operand} {ts : Array TypeId} {ty : TypeId} {x : Operand} {y : Value} {ar_ : List Value} {nx : Next} (hx : ρ.ev x = y) (ha : c.toList.map ρ.ev = ar_) (h : (vcall y ar_.toArray).run P w = .ok nx w) :
    CallsN P (.call { callee := .value x, args := c, argTypes := ts }) ty ρ w nx := by
  intro d pos aft g
  have hc : c.map ρ.ev = ar_.toArray := Array.ext' (by rw [Array.toList_map, ha])
  simp only [execOp, resolve, hx, hc]
  exact h
theorem WL.callN {d : Option Nat} {op : Op} {ty : TypeId} {pos : String} {aft : Array Edge} {g : Option (Nat × Bool)} {nx : Next} {R : Value → World → Prop} (hg : ρ.want ops g = true)
    (hc : CallsN P op ty ρ w nx) (hn : nxCall nx = true) (h : Leads P nx w R) (k : ∀ v w', R v w' → WL P n ops rest Q (ρ.put d v) w') : WL P n ops (⟨d, op, ty, pos, aft, g⟩ :: rest) Q ρ w := by
  refine WL.opR fun hd a ha i hi => ?_
  obtain ⟨h1, h2⟩ := dstOk_head hd
  exact opR_call hi h2 (by rw [ha.yielded]; exact hg) hn (by rw [ha.eval]; exact hc d pos aft g) h fun v w' hR => ⟨_, ha.put d h1 v, Env.put_rd .., k v w' hR⟩
theorem WL.call {d : Option Nat} {op : Op} {ty : TypeId} {pos : String} {aft : Array Edge} {g : Option (Nat × Bool)} {f : FuncId} {args : Array Value} {R : Value → World → Prop} (hg : ρ.want ops g = true)
    (hc : CallsF P op ty ρ w f args) (h : Rets P f args w R) (k : ∀ v w', R v w' → WL P n ops rest Q (ρ.put d v) w') : WL P n ops (⟨d, op, ty, pos, aft, g⟩ :: rest) Q ρ w :=
  WL.callN hg hc rfl h.leads k
theorem WL.callV {d : Option Nat} {ty : TypeId} {pos : String} {aft : Array Edge} {g : Option (Nat × Bool)} {c : Array Operand} {ts : Array TypeId} {x : Operand} {y : Value} {ar_ : List Value} {R : Value → World → Prop} (hg : ρ.want ops g = true)
    (hx : ρ.ev x = y) (ha : c.toList.map ρ.ev = ar_) (h : RetsV P y ar_.toArray w R) (k : ∀ v w', R v w' → WL P n ops rest Q (ρ.put d v) w') :
    WL P n ops (⟨d, .call { callee := .value x, args := c, argTypes := ts }, ty, pos, aft, g⟩ :: rest) Q ρ w :=
  let ⟨_, h1, h2, h3⟩ := h; WL.callN hg (CallsN.value hx ha h2) h1 h3 k
end
def Scal (P : Program) (t : TypeId) : Prop := ∀ w, (isAgg t).run P w = .ok false w
structure Aggr (P : Program) (t : TypeId) (k : Nat) : Prop where
  agg : ∀ w, (isAgg t).run P w = .ok true w
  size : ∀ w, (Go.sizeOf t).run P w = .ok k w
def Sized (P : Program) (t : TypeId) (k : Nat) : Prop := ∀ w, (Go.sizeOf t).run P w = .ok k w
namespace Step
variable {P : Program} {ρ : Env} {w w' : World} {ty : TypeId}
theorem pure {op : Op} {v : Value} (h : (execOp ρ.ev ⟨none, op, ty, "", #[], none⟩).run P w = .ok (.value v) w) : Step P op ty ρ w v w :=
  fun _ _ _ _ => .inl h
theorem make {op : Op} {v : Value} (h : (execOp ρ.ev ⟨none, op, ty, "", #[], none⟩).run P w = .ok (.value v) w') : Step P op ty ρ w v w' :=
  fun _ _ _ _ => .inl h
theorem move {x : Operand} {v : Value} (h : ρ.ev x = v) : Step P (.move x) ty ρ w v w := fun _ _ _ _ => .inl (by rw [← h]; rfl)
theorem assign {x : Operand} {v : Value} (h : ρ.ev x = v) : Step P (.assign x) ty ρ w v w := fun _ _ _ _ => .inl (by rw [← h]; rfl)
theorem pick {c x y : Operand} {t : Bool} {v : Value} (hc : ρ.ev c = .bool t) (h : (if t then ρ.ev x else ρ.ev y) = v) : Step P (.pick c x y) ty ρ w v w := by
  intro d pos aft g
  left
  simp only [execOp, hc, asBool, Sem.run_bind, Sem.run_pure, Result.andThen_ok]
  rw [← h]
theorem load1 {t : TypeId} {x : Operand} {a : Addr} {v : Value} (ht : Scal P t) (ha : ρ.ev x = .pointer (some a)) (hc : w.cell? a = some v) : Step P (.load t x) ty ρ w v w := by
  intro d pos aft g
  left
  simp [execOp, ha, Instr.loadAt, Instr.sureAddr, loadVar, ht w, load, Sem.run, hc]
theorem loadN {t : TypeId} {x : Operand} {b o k : Nat} {c cs : Array Value} {e : TypeId} {fz : Nat × Nat} (ht : Aggr P t k) (ha : ρ.ev x = .pointer (some ⟨b, o, none⟩))
    (hb : w.heap[b]? = some (.cells c e fz)) (hs : o + k ≤ c.size) (hcs : c.extract o (o + k) = cs) : Step P (.load t x) ty ρ w (.agg cs) w := by
  intro d pos aft g
  left
  have key : ∀ (m i : Nat) (acc : Array Value), o + i + m ≤ c.size → (loadCellsFrom ⟨b, o, none⟩ i m acc).run P w = .ok (acc ++ c.extract (o + i) (o + i + m)) w := by
    intro m
    induction m with
    | zero => intro i acc _; simp [loadCellsFrom]; omega
    | succ m ih =>
      intro i acc hlt
      have hcell : w.cell? ((⟨b, o, none⟩ : Addr).add i) = some c[o + i] := by
        have : (⟨b, o, none⟩ : Addr).add i = ⟨b, o + i, none⟩ := by unfold Addr.add; split <;> simp_all
        rw [this, cell_blk hb]; simp
      simp only [loadCellsFrom, Sem.run_bind, load, Sem.run, hcell, Result.andThen_ok]
      rw [ih (i + 1) _ (by omega)]
      congr 1
      apply Array.ext'
      simp only [Array.toList_append, Array.toList_push, Array.toList_extract, List.append_assoc, List.extract_eq_take_drop]
      have h1 : o + (i + 1) + m - (o + (i + 1)) = m := by omega
      have h2 : o + i + (m + 1) - (o + i) = m + 1 := by omega
      rw [h1, h2]
      have h3 : o + i < c.toList.length := by simp; omega
      rw [List.drop_eq_getElem_cons h3, List.take_succ_cons]
      simp [Nat.add_assoc]
  have := key k 0 #[] (by simpa using hs)
  simp only [Nat.add_zero, Array.empty_append] at this
  simp [execOp, ha, Instr.loadAt, Instr.sureAddr, loadVar, ht.agg w, ht.size w, loadCells, this, hcs]
theorem alloc {t : TypeId} {z : Value} (hz : ∀ w, (zeroValue t).run P w = .ok z w) : Step P (.alloc t) ty ρ w (.pointer (some ⟨w.heap.size, 0, none⟩)) (w.alloc (.cells z.cells t)) := by
  intro d pos aft g
  left
  simp [execOp, Instr.alloc, hz w, newVar, newRow, newObj, Sem.run]
theorem box {t : TypeId} {x : Operand} {v : Value} (h : ρ.ev x = v) : Step P (.box t x) ty ρ w (.pointer (some ⟨w.heap.size, 0, none⟩)) (w.alloc (.cells v.cells t)) := by
  intro d pos aft g
  left
  simp [execOp, h, Instr.box, newVar, newRow, newObj, Sem.run]
def Cellish (l : List Value) : Prop := ∀ v, v ∈ l → (∀ cs, v ≠ .agg cs) ∧ (∀ vs, v ≠ .tuple vs)
def put (c : Array Value) : Nat → List Value → Array Value
  | _, [] => c
  | o, v :: l => put (c.setIfInBounds o v) (o + 1) l
theorem put_size (l : List Value) : ∀ (c : Array Value) (o : Nat), (put c o l).size = c.size := by
  induction l with
  | nil => intro c o; rfl
  | cons v l ih => intro c o; simp [put, ih]
theorem storeCells_run {b o : Nat} {e : TypeId} : ∀ (l : List Value) (i : Nat) (c : Array Value) (w : World), w.heap[b]? = some (.cells c e (0, 0)) → o + i + l.length ≤ c.size → Cellish l →
    (storeCells ⟨b, o, none⟩ l i).run P w = .ok () (World.blkSet w b (.cells (put c (o + i) l) e)) := by
  intro l
  induction l with
  | nil =>
    intro i c w hb _ _
    have : World.blkSet w b (.cells c e) = w := by
      obtain ⟨h1, h2⟩ := Array.getElem?_eq_some_iff.1 hb
      unfold World.blkSet
      rw [show w.heap.setIfInBounds b (.cells c e) = w.heap from by
        apply Array.ext
        · simp
        · intro k k1 k2
          rw [Array.getElem_setIfInBounds (by simpa using k1)]
          split
          · rename_i e; subst e; exact h2.symm
          · rfl]
    simp [storeCells, put, this]
  | cons v l ih =>
    intro i c w hb hs hl
    have hadd : (⟨b, o, none⟩ : Addr).add i = ⟨b, o + i, none⟩ := by unfold Addr.add; split <;> simp_all
    have hlen : o + i < c.size := by simp only [List.length_cons] at hs; omega
    have hst : (store ((⟨b, o, none⟩ : Addr).add i) v).run P w = .ok () (World.blkSet w b (.cells (c.setIfInBounds (o + i) v) e)) := by
      have h1 := (hl v (by simp)).1
      have h2 := (hl v (by simp)).2
      have hc : w.cell? ⟨b, o + i, none⟩ = some c[o + i] := by rw [cell_blk hb]; simp
      rw [hadd, store, ← setCell_blk hb]
      cases v <;> first | (exact absurd rfl (h1 _)) | (exact absurd rfl (h2 _)) | simp [Sem.run, hc, frozen_blk hb]
    have hb' : (World.blkSet w b (.cells (c.setIfInBounds (o + i) v) e)).heap[b]? = some (.cells (c.setIfInBounds (o + i) v) e (0, 0)) := blkSet_at _ (lt_of_blk hb)
    simp only [storeCells, Sem.run_bind, hst, Result.andThen_ok]
    rw [ih (i + 1) _ _ hb' (by simp only [List.length_cons] at hs; rw [Array.size_setIfInBounds]; omega) (fun v hv => hl v (by simp [hv]))]
    simp only [put, World.blkSet, Array.setIfInBounds_setIfInBounds, Nat.add_assoc]
theorem store {t : TypeId} {x y : Operand} {b o k : Nat} {c c' : Array Value} {e : TypeId} {v : Value} (ht : Sized P t k) (ha : ρ.ev x = .pointer (some ⟨b, o, none⟩)) (hv : ρ.ev y = v)
    (hk : v.cells.size = k) (hb : w.heap[b]? = some (.cells c e (0, 0))) (hs : o + k ≤ c.size) (hl : Cellish v.cells.toList) (hc : put c o v.cells.toList = c') :
    Step P (.store t x y) ty ρ w undef (World.blkSet w b (.cells c' e)) := by
  intro d pos aft g
  right
  have := storeCells_run (P := P) (o := o) v.cells.toList 0 c w hb (by simp only [Array.length_toList]; omega) hl
  simp only [Nat.add_zero, hc] at this
  simp [execOp, ha, hv, Instr.storeAt, Instr.sureAddr, storeVar, ht w, hk, this]
end Step
end Tp
namespace Tp
open Go
def Does (P : Program) (o : Oper) (ρ : Env) (w : World) (R : Value → World → Prop) : Prop :=
  (∃ v w', Step P o.op o.type ρ w v w' ∧ R v w') ∨ ∃ nx, nxCall nx = true ∧ CallsN P o.op o.type ρ w nx ∧ Leads P nx w R
theorem Does.call' {P : Program} {d : Option Nat} {op : Op} {ty : TypeId} {pos : String} {aft : Array Edge} {g : Option (Nat × Bool)} {ρ : Env} {w : World} {f : FuncId} {args : Array Value} {R : Value → World → Prop} (hc : CallsF P op ty ρ w f args) (h : Rets P f args w R) : Does P ⟨d, op, ty, pos, aft, g⟩ ρ w R :=
  .inr ⟨_, rfl, hc, h.leads⟩
abbrev St := (Nat → Prop) → World → Prop
def St.with (S : St) (b : Nat) (obj : Obj) : St := fun A w => S (fun x => x = b ∨ A x) w ∧ w.heap[b]? = some obj ∧ ¬ A b
structure Good (D : World → Prop) (S : St) : Prop where
  d : ∀ A w, S A w → D w
  alloc : ∀ A w obj, S A w → S (fun x => x = w.heap.size ∨ A x) (w.alloc obj)
  lt : ∀ A w, S A w → ∀ b, A b → b < w.heap.size
theorem or_left_swap (A : Nat → Prop) (b c : Nat) : (fun x => x = b ∨ x = c ∨ A x) = fun x => x = c ∨ x = b ∨ A x := by
  funext x
  exact propext ⟨fun h => h.elim (fun h => .inr (.inl h)) fun h => h.elim .inl fun h => .inr (.inr h), fun h => h.elim (fun h => .inr (.inl h)) fun h => h.elim .inl fun h => .inr (.inr h)⟩
theorem Good.with {D : World → Prop} {S : St} (h : Good D S) (b : Nat) (obj : Obj) : Good D (S.with b obj) where
  d _ _ hs := h.d _ _ hs.1
  alloc A w o hs := by
    obtain ⟨h1, h2, h3⟩ := hs
    have hb := lt_of_blk h2
    refine ⟨?_, ?_, ?_⟩
    · have := h.alloc _ w o h1
      rwa [or_left_swap] at this
    · rw [heap_alloc_old w o hb]; exact h2
    · rintro (e | e)
      · omega
      · exact h3 e
  lt A w hs b' hb' := h.lt _ _ hs.1 b' (.inr hb')
theorem St.with_swap {S : St} {b c : Nat} {o o' : Obj} {A : Nat → Prop} {w : World} (h : ((S.with c o').with b o) A w) : ((S.with b o).with c o') A w := by
  obtain ⟨⟨h1, h2, h3⟩, h4, h5⟩ := h
  refine ⟨⟨by rwa [or_left_swap] at h1, h4, fun e => e.elim (fun e => h3 (.inl e.symm)) h5⟩, h2, fun hc => h3 (.inr hc)⟩
inductive TW (P : Program) (ops : Array Oper) (ld mk : List Nat) (D : World → Prop) (Q : Env → World → Prop) : List Nat → Env → St → Prop
  | nil {ρ : Env} {S : St} (h : ∀ A w, S A w → Q ρ w) : TW P ops ld mk D Q [] ρ S
  | steady {i : Nat} {o : Oper} {v : Value} {rest : List Nat} {ρ : Env} {S : St} (hi : ops[i]? = some o) (hl : i ∉ ld) (hm : i ∉ mk) (hw : ρ.want ops o.guard = true)
      (h : ∀ w, D w → Step P o.op o.type ρ w v w) (k : TW P ops ld mk D Q rest (ρ.put o.dst v) S) : TW P ops ld mk D Q (i :: rest) ρ S
  | pass {i : Nat} {o : Oper} {rest : List Nat} {ρ : Env} {S : St} (hi : ops[i]? = some o) (hw : ρ.want ops o.guard = false)
      (k : TW P ops ld mk D Q rest (ρ.put o.dst undef) S) : TW P ops ld mk D Q (i :: rest) ρ S
  | maker {i : Nat} {o : Oper} {rest : List Nat} {ρ : Env} {S : St} (g : Nat → Value) (obj : Obj) (hi : ops[i]? = some o) (hl : i ∉ ld) (hm : i ∈ mk) (hw : ρ.want ops o.guard = true)
      (h : ∀ w, D w → Step P o.op o.type ρ w (g w.heap.size) (w.alloc obj)) (k : ∀ b, (∃ A w, S.with b obj A w) → TW P ops ld mk D Q rest (ρ.put o.dst (g b)) (S.with b obj)) : TW P ops ld mk D Q (i :: rest) ρ S
  | loudx {i : Nat} {o : Oper} {rest : List Nat} {ρ : Env} {S : St} {ι : Type} (S' : ι → Value → St) (hi : ops[i]? = some o) (hl : i ∈ ld) (hm : i ∉ mk) (hw : ρ.want ops o.guard = true) (hg : ∀ x v, Good D (S' x v))
      (h : ∀ A w, S A w → Does P o ρ w fun v w' => (∃ x, S' x v A w') ∧ ∀ b, A b → w'.heap[b]? = w.heap[b]?)
      (k : ∀ x v, (∃ A w, S' x v A w) → TW P ops ld mk D Q rest (ρ.put o.dst v) (S' x v)) : TW P ops ld mk D Q (i :: rest) ρ S
  | peek {i : Nat} {o : Oper} {v : Value} {rest : List Nat} {ρ : Env} {S : St} (hi : ops[i]? = some o) (hl : i ∈ ld) (hm : i ∈ mk) (hw : ρ.want ops o.guard = true)
      (h : ∀ A w, S A w → Does P o ρ w fun v' w' => v' = v ∧ S A w' ∧ ∀ b, A b → w'.heap[b]? = w.heap[b]?) (k : TW P ops ld mk D Q rest (ρ.put o.dst v) S) : TW P ops ld mk D Q (i :: rest) ρ S
def Peeks (ld mk : List Nat) (i j : Nat) : Prop := (i ∈ ld ∧ i ∈ mk) ∧ j ∈ ld ∧ j ∈ mk
def Free (ld mk : List Nat) (i j : Nat) : Prop := ¬ (j ∈ ld ∧ (i ∈ ld ∨ i ∈ mk)) ∨ Peeks ld mk i j
def DP (ops : Array Oper) (i j : Nat) : Prop := ∃ o, ops[j]? = some o ∧ ∃ e, e ∈ o.after ∧ Region.binds .any e = true ∧ e.on = i
inductive TP (ops : Array Oper) : Nat → Nat → Prop
  | one {i j : Nat} (h : DP ops i j) : TP ops i j
  | step {i k j : Nat} (h : DP ops k j) (h' : TP ops i k) : TP ops i j
def Apart (ops : Array Oper) (i j : Nat) : Prop := ∃ oi oj, ops[i]? = some oi ∧ ops[j]? = some oj ∧ oi.apart ops oj = true
def Before (ops : Array Oper) (ld mk : List Nat) (i j : Nat) : Prop :=
  i ≠ j ∧ ¬ DP ops j i ∧ (TP ops i j ∨ (Apart ops i j ∧ Free ld mk i j))
def NoSel (ops : Array Oper) : Prop := ∀ (j : Nat) (o : Oper) cs b, ops[j]? = some o → o.op ≠ .select cs b
section
variable {P : Program} {ops : Array Oper} {ld mk : List Nat} {D : World → Prop} {Q : Env → World → Prop}
theorem Env.put_comm (ρ : Env) {x y : Option Nat} (v u : Value) (h : ∀ d, x = some d → y ≠ some d) : (ρ.put x v).put y u = (ρ.put y u).put x v := by
  cases x with
  | none => rfl
  | some d =>
    cases y with
    | none => rfl
    | some e =>
      have hne : d ≠ e := fun he => h d rfl (he ▸ rfl)
      simp only [Env.put, Env.set, Env.mk.injEq, and_true]
      funext t
      by_cases h1 : t = e
      · subst h1; simp [hne.symm]
      · by_cases h2 : t = d
        · subst h2; simp [hne]
        · simp [h1, h2]
theorem Env.ev_put {ρ : Env} {dst : Option Nat} {v : Value} {x : Operand} (h : ∀ d, dst = some d → x ≠ .tmp d) : (ρ.put dst v).ev x = ρ.ev x := by
  cases dst with
  | none => rfl
  | some d =>
    cases x with
    | tmp t =>
      have : t ≠ d := fun e => h d rfl (e ▸ rfl)
      simp [Env.ev, Env.put, Env.set, this]
    | _ => rfl
theorem execOp_env {ρ : Env} (o : Oper) (hs : ∀ cs b, o.op ≠ .select cs b) (dst : Option Nat) (v : Value) (h : ∀ d, dst = some d → d ∉ o.looksAt ops) (d : Option Nat) (pos : String) (aft : Array Edge) (g : Option (Nat × Bool)) :
    execOp (ρ.put dst v).ev ⟨d, o.op, o.type, pos, aft, g⟩ = execOp ρ.ev ⟨d, o.op, o.type, pos, aft, g⟩ :=
  execOp_congr _ hs fun x hx => Env.ev_put fun d hd hxd => h d hd (by
    subst hxd
    exact List.mem_append_left _ (List.mem_filterMap.2 ⟨.tmp d, by simpa using hx, rfl⟩))
theorem want_env {ρ : Env} (o : Oper) (dst : Option Nat) (v : Value) (h : ∀ d, dst = some d → d ∉ o.looksAt ops) : (ρ.put dst v).want ops o.guard = ρ.want ops o.guard := by
  cases dst with
  | none => rfl
  | some d =>
    have hd := h d rfl
    unfold Env.want
    cases hg : o.guard with
    | none => rfl
    | some p =>
      obtain ⟨j, b⟩ := p
      simp only []
      cases hj : (ops[j]?).bind (·.dst) with
      | none => rfl
      | some t =>
        have : t ≠ d := by
          intro e
          apply hd
          subst e
          simp only [Oper.looksAt, hg]
          exact List.mem_append_right _ (by simp [hj])
        simp only [Env.put, Env.set, if_neg this]
theorem Step.env {ρ : Env} {o : Oper} {w w' : World} {u : Value} (hs : ∀ cs b, o.op ≠ .select cs b) (dst : Option Nat) (v : Value) (h : ∀ d, dst = some d → d ∉ o.looksAt ops) :
    Step P o.op o.type (ρ.put dst v) w u w' ↔ Step P o.op o.type ρ w u w' := by
  unfold Step
  constructor <;> intro hh d pos aft g
  · rw [← execOp_env o hs dst v h]; exact hh d pos aft g
  · rw [execOp_env o hs dst v h]; exact hh d pos aft g
theorem Does.env {ρ : Env} {o : Oper} {w : World} {R : Value → World → Prop} (hs : ∀ cs b, o.op ≠ .select cs b) (dst : Option Nat) (v : Value) (h : ∀ d, dst = some d → d ∉ o.looksAt ops) :
    Does P o (ρ.put dst v) w R → Does P o ρ w R := by
  rintro (⟨u, w', h1, h2⟩ | ⟨nx, h0, h1, h2⟩)
  · exact .inl ⟨u, w', (Step.env hs dst v h).1 h1, h2⟩
  · refine .inr ⟨nx, h0, fun d pos aft g => ?_, h2⟩
    rw [← execOp_env o hs dst v h]; exact h1 d pos aft g
theorem Does.env' {ρ : Env} {o : Oper} {w : World} {R : Value → World → Prop} (hs : ∀ cs b, o.op ≠ .select cs b) (dst : Option Nat) (v : Value) (h : ∀ d, dst = some d → d ∉ o.looksAt ops) :
    Does P o ρ w R → Does P o (ρ.put dst v) w R := by
  rintro (⟨u, w', h1, h2⟩ | ⟨nx, h0, h1, h2⟩)
  · exact .inl ⟨u, w', (Step.env hs dst v h).2 h1, h2⟩
  · refine .inr ⟨nx, h0, fun d pos aft g => ?_, h2⟩
    rw [execOp_env o hs dst v h]; exact h1 d pos aft g
theorem Does.mono {ρ : Env} {o : Oper} {w : World} {R R' : Value → World → Prop} (h : Does P o ρ w R) (hr : ∀ v w', R v w' → R' v w') : Does P o ρ w R' := by
  rcases h with ⟨u, w', h1, h2⟩ | ⟨nx, h0, h1, h2⟩
  · exact .inl ⟨u, w', h1, hr _ _ h2⟩
  · exact .inr ⟨nx, h0, h1, h2.mono hr⟩
theorem Does.inhabited {ρ : Env} {o : Oper} {w : World} {R : Value → World → Prop} (h : Does P o ρ w R) : ∃ v w', R v w' := by
  rcases h with ⟨u, w', _, h2⟩ | ⟨nx, _, _, h2⟩
  · exact ⟨u, w', h2⟩
  · obtain ⟨v, w', hR, _⟩ := h2 default []
    exact ⟨v, w', hR⟩
theorem Step.det {op : Op} {ty : TypeId} {ρ : Env} {w w1 w2 : World} {v1 v2 : Value} (h1 : Step P op ty ρ w v1 w1) (h2 : Step P op ty ρ w v2 w2) : v1 = v2 ∧ w1 = w2 := by
  rcases h1 none "" #[] none with h1 | ⟨h1, e1⟩ <;> rcases h2 none "" #[] none with h2 | ⟨h2, e2⟩ <;> rw [h1] at h2 <;> simp at h2
  · exact h2
  · exact ⟨e1.trans e2.symm, h2⟩
theorem alloc_inj {w : World} {o o' : Obj} (h : w.alloc o = w.alloc o') : o = o' := by
  have h1 := heap_alloc_new w o
  rw [h, heap_alloc_new] at h1
  simpa using h1.symm
theorem TW.weaken {l : List Nat} {ρ : Env} {S : St} (h : TW P ops ld mk D Q l ρ S) : ∀ {S2 : St}, (∀ A w, S2 A w → S A w) → (∀ A w w', S2 A w → S A w' → (∀ b, A b → w'.heap[b]? = w.heap[b]?) → S2 A w') → TW P ops ld mk D Q l ρ S2 := by
  induction h with
  | nil h => exact fun hs _ => .nil fun A w h2 => h A w (hs A w h2)
  | steady hi hl hm hw h _ ih => exact fun hs hk => .steady hi hl hm hw h (ih hs hk)
  | pass hi hw _ ih => exact fun hs hk => .pass hi hw (ih hs hk)
  | maker g obj hi hl hm hw h _ ih => exact fun hs hk => .maker g obj hi hl hm hw h fun b ⟨A, w, h2⟩ => ih b ⟨A, w, hs _ _ h2.1, h2.2⟩ (fun A w h2 => ⟨hs _ _ h2.1, h2.2⟩) fun A w w' h2 h1 hb =>
      ⟨hk _ w w' h2.1 h1.1 fun x hx => hx.elim (fun e => by subst e; exact h1.2.1.trans h2.2.1.symm) (hb x), h1.2⟩
  | loudx S' hi hl hm hw hg h k _ => exact fun hs _ => .loudx S' hi hl hm hw hg (fun A w h2 => h A w (hs A w h2)) k
  | peek hi hl hm hw h _ ih => exact fun hs hk => .peek hi hl hm hw (fun A w h2 => Does.mono (h A w (hs A w h2)) fun _ w' ⟨e, h1, h3⟩ => ⟨e, hk A w w' h2 h1 h3, h3⟩) (ih hs hk)
theorem TW.loud {i : Nat} {o : Oper} {rest : List Nat} {ρ : Env} {S : St} (S' : Value → St) (hi : ops[i]? = some o) (hl : i ∈ ld) (hw : ρ.want ops o.guard = true) (hg : ∀ v, Good D (S' v))
    (h : ∀ A w, S A w → Does P o ρ w fun v w' => S' v A w' ∧ ∀ b, A b → w'.heap[b]? = w.heap[b]?)
    (k : ∀ v, (∃ A w, S' v A w) → TW P ops ld mk D Q rest (ρ.put o.dst v) (S' v)) (hm : i ∉ mk := by decide) : TW P ops ld mk D Q (i :: rest) ρ S :=
  .loudx (ι := Unit) (fun _ v => S' v) hi hl hm hw (fun _ => hg) (fun A w hs => Does.mono (h A w hs) fun _ _ ⟨h1, h2⟩ => ⟨⟨(), h1⟩, h2⟩) fun _ v hv => k v hv
def Over (ops : Array Oper) (i j : Nat) : Prop := ∃ oi oj, ops[i]? = some oi ∧ ops[j]? = some oj ∧ oi.apart ops oj = true
inductive Pulled (P : Program) (ops : Array Oper) (ld mk : List Nat) (D : World → Prop) (Q : Env → World → Prop) (j : Nat) (o : Oper) (l : List Nat) (ρ : Env) (S : St) : Prop
  | steady (v : Value) (hw : ρ.want ops o.guard = true) (h : ∀ w, D w → Step P o.op o.type ρ w v w) (k : TW P ops ld mk D Q l (ρ.put o.dst v) S)
  | pass (hw : ρ.want ops o.guard = false) (k : TW P ops ld mk D Q l (ρ.put o.dst undef) S)
  | maker (hw : ρ.want ops o.guard = true) (h : ∀ w, D w → ∃ v obj, Step P o.op o.type ρ w v (w.alloc obj) ∧ ((∃ A w', S.with w.heap.size obj A w') → TW P ops ld mk D Q l (ρ.put o.dst v) (S.with w.heap.size obj)))
  | peek (v : Value) (hl : j ∈ ld) (hm : j ∈ mk) (hw : ρ.want ops o.guard = true) (h : ∀ A w, S A w → Does P o ρ w fun v' w' => v' = v ∧ S A w' ∧ ∀ b, A b → w'.heap[b]? = w.heap[b]?) (k : TW P ops ld mk D Q l (ρ.put o.dst v) S)
  | loud {ι : Type} (S' : ι → Value → St) (hl : j ∈ ld) (hm : j ∉ mk) (hw : ρ.want ops o.guard = true) (hg : ∀ x v, Good D (S' x v)) (h : ∀ A w, S A w → Does P o ρ w fun v w' => (∃ x, S' x v A w') ∧ ∀ b, A b → w'.heap[b]? = w.heap[b]?)
      (k : ∀ x v, (∃ A w, S' x v A w) → TW P ops ld mk D Q l (ρ.put o.dst v) (S' x v))
theorem pull (hsel : NoSel ops) {j : Nat} {oj : Oper} (hj : ops[j]? = some oj) (l2 : List Nat) : ∀ (l1 : List Nat) (ρ : Env) (S : St), TW P ops ld mk D Q (l1 ++ j :: l2) ρ S → Good D S →
    (∃ A w, S A w) → (∀ i, i ∈ l1 → Over ops i j ∧ Free ld mk i j) → Pulled P ops ld mk D Q j oj (l1 ++ l2) ρ S := by
  intro l1
  induction l1 with
  | nil =>
    intro ρ S h hG _ _
    cases h with
    | steady hi hl hm hw h k => rw [hj] at hi; cases hi; exact .steady _ hw h k
    | pass hi hw k => rw [hj] at hi; cases hi; exact .pass hw k
    | maker g obj hi hl hm hw h k =>
      rw [hj] at hi; cases hi
      exact .maker hw fun w hd => ⟨_, obj, h w hd, k _⟩
    | loudx S' hi hl hm hw hg h k => rw [hj] at hi; cases hi; exact .loud S' hl hm hw hg h k
    | peek hi hl hm hw h k => rw [hj] at hi; cases hi; exact .peek _ hl hm hw h k
  | cons i l1 ih =>
    intro ρ S h hG hin hov
    obtain ⟨⟨oi, oj', hoi, hoj, hap⟩, hnl⟩ := hov i (by simp)
    rw [hj] at hoj; cases hoj
    obtain ⟨a1, a2, a3⟩ := Oper.apart_spec hap
    have hov' : ∀ x, x ∈ l1 → Over ops x j ∧ Free ld mk x j := fun x hx => hov x (by simp [hx])
    have hsi := fun cs b => hsel i oi cs b hoi
    have hsj := fun cs b => hsel j oj cs b hj
    have a2' : ∀ d, oj.dst = some d → oi.dst ≠ some d := fun d hd he => a2 d he hd
    cases h with
    | @steady _ o v _ _ _ hi hl hm hw h k =>
      rw [hoi] at hi; cases hi
      have K := ih _ S k hG hin hov'
      have stay : ∀ (u : Value) (S2 : St), TW P ops ld mk D Q (l1 ++ l2) ((ρ.put oi.dst v).put oj.dst u) S2 → TW P ops ld mk D Q (i :: (l1 ++ l2)) (ρ.put oj.dst u) S2 := fun u S2 hk =>
        .steady hoi hl hm (by rw [want_env oi _ _ a3]; exact hw) (fun w hd => (Step.env hsi _ _ a3).2 (h w hd)) (by rw [Env.put_comm ρ u v a2']; exact hk)
      cases K with
      | steady u hw' h' k' => exact .steady u (by rw [← want_env oj _ _ a1]; exact hw') (fun w hd => (Step.env hsj _ _ a1).1 (h' w hd)) (stay u S k')
      | pass hw' k' => exact .pass (by rw [← want_env oj _ _ a1]; exact hw') (stay _ S k')
      | maker hw' h' => exact .maker (by rw [← want_env oj _ _ a1]; exact hw') fun w hd => let ⟨u, obj, h1, h2⟩ := h' w hd; ⟨u, obj, (Step.env hsj _ _ a1).1 h1, fun hin => stay u _ (h2 hin)⟩
      | peek u hl' hm' hw' h' k' => exact .peek u hl' hm' (by rw [← want_env oj _ _ a1]; exact hw') (fun A w hs => Does.env hsj _ _ a1 (h' A w hs)) (stay u S k')
      | loud S' hl' hm' hw' hg' h' k' => exact .loud S' hl' hm' (by rw [← want_env oj _ _ a1]; exact hw') hg' (fun A w hs => Does.env hsj _ _ a1 (h' A w hs)) fun x u hu => stay u _ (k' x u hu)
    | @pass _ o _ _ _ hi hw k =>
      rw [hoi] at hi; cases hi
      have K := ih _ S k hG hin hov'
      have stay : ∀ (u : Value) (S2 : St), TW P ops ld mk D Q (l1 ++ l2) ((ρ.put oi.dst undef).put oj.dst u) S2 → TW P ops ld mk D Q (i :: (l1 ++ l2)) (ρ.put oj.dst u) S2 := fun u S2 hk =>
        .pass hoi (by rw [want_env oi _ _ a3]; exact hw) (by rw [Env.put_comm ρ u undef a2']; exact hk)
      cases K with
      | steady u hw' h' k' => exact .steady u (by rw [← want_env oj _ _ a1]; exact hw') (fun w hd => (Step.env hsj _ _ a1).1 (h' w hd)) (stay u S k')
      | pass hw' k' => exact .pass (by rw [← want_env oj _ _ a1]; exact hw') (stay _ S k')
      | maker hw' h' => exact .maker (by rw [← want_env oj _ _ a1]; exact hw') fun w hd => let ⟨u, obj, h1, h2⟩ := h' w hd; ⟨u, obj, (Step.env hsj _ _ a1).1 h1, fun hin => stay u _ (h2 hin)⟩
      | peek u hl' hm' hw' h' k' => exact .peek u hl' hm' (by rw [← want_env oj _ _ a1]; exact hw') (fun A w hs => Does.env hsj _ _ a1 (h' A w hs)) (stay u S k')
      | loud S' hl' hm' hw' hg' h' k' => exact .loud S' hl' hm' (by rw [← want_env oj _ _ a1]; exact hw') hg' (fun A w hs => Does.env hsj _ _ a1 (h' A w hs)) fun x u hu => stay u _ (k' x u hu)
    | @maker _ o _ _ _ g obj hi hl hm hw h k =>
      rw [hoi] at hi; cases hi
      replace hnl : ¬ (j ∈ ld ∧ (i ∈ ld ∨ i ∈ mk)) := hnl.elim id fun hp => absurd hp.1.1 hl
      obtain ⟨A0, w0, hs0⟩ := hin
      have hd0 := hG.d _ _ hs0
      have mk_in : ∀ A w, S A w → (S.with w.heap.size obj) A (w.alloc obj) := fun A w hs =>
        ⟨hG.alloc _ _ _ hs, heap_alloc_new w obj, fun hA => by have := hG.lt _ _ hs _ hA; omega⟩
      have K := fun b hb => ih _ (S.with b obj) (k b hb) (hG.with b obj) hb hov'
      have K0 := K w0.heap.size ⟨A0, _, mk_in _ _ hs0⟩
      have stay : ∀ (u : Value) (S2 : St), (∀ b, (∃ A w, S2.with b obj A w) → TW P ops ld mk D Q (l1 ++ l2) ((ρ.put oi.dst (g b)).put oj.dst u) (S2.with b obj)) → TW P ops ld mk D Q (i :: (l1 ++ l2)) (ρ.put oj.dst u) S2 := fun u S2 hk =>
        .maker g obj hoi hl hm (by rw [want_env oi _ _ a3]; exact hw) (fun w hd => (Step.env hsi _ _ a3).2 (h w hd)) fun b hb => by rw [Env.put_comm ρ u (g b) a2']; exact hk b hb
      cases K0 with
      | steady u hw' h' k' =>
        have h1 : ∀ w, D w → Step P oj.op oj.type ρ w u w := fun w hd => (Step.env hsj _ _ a1).1 (h' w hd)
        refine .steady u (by rw [← want_env oj _ _ a1]; exact hw') h1 (stay u S fun b hb => ?_)
        cases K b hb with
        | steady u2 hw2 h2 k2 => rw [← (Step.det ((Step.env hsj _ _ a1).1 (h2 w0 hd0)) (h1 w0 hd0)).1]; exact k2
        | pass hw2 k2 => rw [want_env oj _ _ a1] at hw2 hw'; rw [hw'] at hw2; cases hw2
        | maker hw2 h2 =>
          obtain ⟨A, w, hs⟩ := hb
          obtain ⟨v2, o2, h3, _⟩ := h2 w (hG.d _ _ hs.1)
          have := congrArg (fun w => w.heap.size) (Step.det ((Step.env hsj _ _ a1).1 h3) (h1 w (hG.d _ _ hs.1))).2
          simp at this
        | peek _ hl' => exact absurd ⟨hl', .inr hm⟩ hnl
        | loud _ hl' => exact absurd ⟨hl', .inr hm⟩ hnl
      | pass hw' k' =>
        refine .pass (by rw [← want_env oj _ _ a1]; exact hw') (stay _ S fun b hb => ?_)
        cases K b hb with
        | pass hw2 k2 => exact k2
        | steady u2 hw2 h2 k2 => rw [want_env oj _ _ a1] at hw2 hw'; rw [hw'] at hw2; cases hw2
        | maker hw2 h2 => rw [want_env oj _ _ a1] at hw2 hw'; rw [hw'] at hw2; cases hw2
        | peek _ hl' => exact absurd ⟨hl', .inr hm⟩ hnl
        | loud _ hl' => exact absurd ⟨hl', .inr hm⟩ hnl
      | maker hw' h' =>
        refine .maker (by rw [← want_env oj _ _ a1]; exact hw') fun w hd => ?_
        obtain ⟨u, obj', h1, _⟩ := h' w hd
        have h1' := (Step.env hsj _ _ a1).1 h1
        refine ⟨u, obj', h1', fun hin' => stay u _ fun b hb => ?_⟩
        obtain ⟨A, w2, hs2⟩ := hb
        have hs3 := St.with_swap hs2
        cases K b ⟨_, w2, hs3.1⟩ with
        | maker hw2 h2 =>
          obtain ⟨u2, o2, h3, h4⟩ := h2 w hd
          obtain ⟨e1, e2⟩ := Step.det ((Step.env hsj _ _ a1).1 h3) h1'
          subst e1
          cases alloc_inj e2
          exact (h4 ⟨A, w2, hs3⟩).weaken (fun A w h => St.with_swap h) fun A w w' _ h _ => St.with_swap h
        | steady v2 hw2 h2 k2 =>
          have := congrArg (fun w => w.heap.size) (Step.det ((Step.env hsj _ _ a1).1 (h2 w hd)) h1').2
          simp at this
        | pass hw2 k2 => rw [want_env oj _ _ a1] at hw2 hw'; rw [hw'] at hw2; cases hw2
        | peek _ hl' => exact absurd ⟨hl', .inr hm⟩ hnl
        | loud _ hl' => exact absurd ⟨hl', .inr hm⟩ hnl
      | peek _ hl' => exact absurd ⟨hl', .inr hm⟩ hnl
      | loud _ hl' => exact absurd ⟨hl', .inr hm⟩ hnl
    | @peek _ o v _ _ _ hi hl hm hw h k =>
      rw [hoi] at hi; cases hi
      have K := ih _ S k hG hin hov'
      have stay : ∀ (u : Value) (S2 : St), (∀ A w, S2 A w → Does P oi ρ w fun v' w' => v' = v ∧ S2 A w' ∧ ∀ b, A b → w'.heap[b]? = w.heap[b]?) → TW P ops ld mk D Q (l1 ++ l2) ((ρ.put oi.dst v).put oj.dst u) S2 → TW P ops ld mk D Q (i :: (l1 ++ l2)) (ρ.put oj.dst u) S2 := fun u S2 h2 hk =>
        .peek hoi hl hm (by rw [want_env oi _ _ a3]; exact hw) (fun A w hs => Does.env' hsi _ _ a3 (h2 A w hs)) (by rw [Env.put_comm ρ u v a2']; exact hk)
      cases K with
      | steady u hw' h' k' => exact .steady u (by rw [← want_env oj _ _ a1]; exact hw') (fun w hd => (Step.env hsj _ _ a1).1 (h' w hd)) (stay u S h k')
      | pass hw' k' => exact .pass (by rw [← want_env oj _ _ a1]; exact hw') (stay _ S h k')
      | maker hw' h' => exact .maker (by rw [← want_env oj _ _ a1]; exact hw') fun w hd => let ⟨u, obj, h1, h2⟩ := h' w hd; ⟨u, obj, (Step.env hsj _ _ a1).1 h1, fun hin => stay u _ (fun A w hs => Does.mono (h _ w hs.1) fun _ w' ⟨e, h1, hb⟩ => ⟨e, ⟨h1, (hb _ (.inl rfl)).trans hs.2.1, hs.2.2⟩, fun b hA => hb b (.inr hA)⟩) (h2 hin)⟩
      | peek u hl' hm' hw' h' k' => exact .peek u hl' hm' (by rw [← want_env oj _ _ a1]; exact hw') (fun A w hs => Does.env hsj _ _ a1 (h' A w hs)) (stay u S h k')
      | loud S' hl' hm' => exact (hnl.elim (fun hn => hn ⟨hl', .inl hl⟩) fun hp => hm' hp.2.2).elim
    | loudx S' hi hl hm hw hg h k =>
      rw [hoi] at hi; cases hi
      replace hnl : ¬ (j ∈ ld ∧ (i ∈ ld ∨ i ∈ mk)) := hnl.elim id fun hp => absurd hp.1.2 hm
      obtain ⟨A0, w0, hs0⟩ := hin
      have hd0 := hG.d _ _ hs0
      obtain ⟨v0, w0', ⟨x0, hv0⟩, _⟩ := (h A0 w0 hs0).inhabited
      have K := fun x v hv => ih _ (S' x v) (k x v hv) (hg x v) hv hov'
      have K0 := K x0 v0 ⟨_, _, hv0⟩
      have does : ∀ (u : Value) A w, S A w → Does P oi (ρ.put oj.dst u) w fun v w' => (∃ x, S' x v A w') ∧ ∀ b, A b → w'.heap[b]? = w.heap[b]? := fun u A w hs => (Does.env' hsi _ _ a3) (h A w hs)
      have stay : ∀ (u : Value), (∀ x v, (∃ A w, S' x v A w) → TW P ops ld mk D Q (l1 ++ l2) ((ρ.put oi.dst v).put oj.dst u) (S' x v)) → TW P ops ld mk D Q (i :: (l1 ++ l2)) (ρ.put oj.dst u) S := fun u hk =>
        .loudx S' hoi hl hm (by rw [want_env oi _ _ a3]; exact hw) hg (does u) fun x v hv => by rw [Env.put_comm ρ u v a2']; exact hk x v hv
      cases K0 with
      | steady u hw' h' k' =>
        have h1 : ∀ w, D w → Step P oj.op oj.type ρ w u w := fun w hd => (Step.env hsj _ _ a1).1 (h' w hd)
        refine .steady u (by rw [← want_env oj _ _ a1]; exact hw') h1 (stay u fun x v hv => ?_)
        cases K x v hv with
        | steady u2 hw2 h2 k2 => rw [← (Step.det ((Step.env hsj _ _ a1).1 (h2 w0 hd0)) (h1 w0 hd0)).1]; exact k2
        | pass hw2 k2 => rw [want_env oj _ _ a1] at hw2 hw'; rw [hw'] at hw2; cases hw2
        | maker hw2 h2 =>
          obtain ⟨v2, o2, h3, _⟩ := h2 w0 hd0
          have := congrArg (fun w => w.heap.size) (Step.det ((Step.env hsj _ _ a1).1 h3) (h1 w0 hd0)).2
          simp at this
        | peek _ hl' => exact absurd ⟨hl', .inl hl⟩ hnl
        | loud _ hl' => exact absurd ⟨hl', .inl hl⟩ hnl
      | pass hw' k' =>
        refine .pass (by rw [← want_env oj _ _ a1]; exact hw') (stay _ fun x v hv => ?_)
        cases K x v hv with
        | pass hw2 k2 => exact k2
        | steady u2 hw2 h2 k2 => rw [want_env oj _ _ a1] at hw2 hw'; rw [hw'] at hw2; cases hw2
        | maker hw2 h2 => rw [want_env oj _ _ a1] at hw2 hw'; rw [hw'] at hw2; cases hw2
        | peek _ hl' => exact absurd ⟨hl', .inl hl⟩ hnl
        | loud _ hl' => exact absurd ⟨hl', .inl hl⟩ hnl
      | maker hw' h' =>
        refine .maker (by rw [← want_env oj _ _ a1]; exact hw') fun w hd => ?_
        obtain ⟨u, obj', h1, _⟩ := h' w hd
        have h1' := (Step.env hsj _ _ a1).1 h1
        refine ⟨u, obj', h1', fun _ => ?_⟩
        refine .loudx (fun x v => (S' x v).with w.heap.size obj') hoi hl hm (by rw [want_env oi _ _ a3]; exact hw) (fun x v => (hg x v).with _ _) ?_ ?_
        · intro A w2 hs2
          have hb := lt_of_blk hs2.2.1
          refine Does.mono (does u _ w2 hs2.1) ?_
          rintro v w3 ⟨⟨x, h3⟩, h4⟩
          exact ⟨⟨x, h3, (h4 _ (.inl rfl)).trans hs2.2.1, hs2.2.2⟩, fun b hb => h4 b (.inr hb)⟩
        · rintro x v ⟨A, w2, hs2⟩
          rw [Env.put_comm ρ u v a2']
          cases K x v ⟨_, w2, hs2.1⟩ with
          | maker hw2 h2 =>
            obtain ⟨u2, o2, h3, h4⟩ := h2 w hd
            obtain ⟨e1, e2⟩ := Step.det ((Step.env hsj _ _ a1).1 h3) h1'
            subst e1
            cases alloc_inj e2
            exact h4 ⟨A, w2, hs2⟩
          | steady v2 hw2 h2 k2 =>
            have := congrArg (fun w => w.heap.size) (Step.det ((Step.env hsj _ _ a1).1 (h2 w hd)) h1').2
            simp at this
          | pass hw2 k2 => rw [want_env oj _ _ a1] at hw2 hw'; rw [hw'] at hw2; cases hw2
          | peek _ hl' => exact absurd ⟨hl', .inl hl⟩ hnl
          | loud _ hl' => exact absurd ⟨hl', .inl hl⟩ hnl
      | peek _ hl' => exact absurd ⟨hl', .inl hl⟩ hnl
      | loud _ hl' => exact absurd ⟨hl', .inl hl⟩ hnl
end
end Tp
namespace Tp
open Go
section
variable {P : Program} {ops : Array Oper} {ld mk : List Nat} {D : World → Prop} {Q : Env → World → Prop}
structure Left (ops : Array Oper) (listed : Array Bool) (l : List Nat) : Prop where
  size : listed.size = ops.size
  nodup : l.Nodup
  lt : ∀ i, i ∈ l → i < ops.size
  iff : ∀ i, i < ops.size → (listed.getD i false = true ↔ i ∉ l)
  down : ∀ i j, DP ops i j → j < ops.size → j ∉ l → i < ops.size ∧ i ∉ l
theorem Left.tp {listed : Array Bool} {l : List Nat} (h : Left ops listed l) {i j : Nat} (ht : TP ops i j) : (∀ k, DP ops k j → k < ops.size ∧ k ∉ l) → i < ops.size ∧ i ∉ l := by
  induction ht with
  | one hd => exact fun hj => hj _ hd
  | step hd _ ih => exact fun hj => let ⟨a, b⟩ := hj _ hd; ih fun k hk => h.down k _ hk a b
theorem Left.ready {listed : Array Bool} {l : List Nat} (h : Left ops listed l) {j : Nat} (hj : j ∈ Region.ready .any ops listed) : j ∈ l ∧ ∀ k, DP ops k j → k < ops.size ∧ k ∉ l := by
  simp only [Region.ready, List.mem_filter, List.mem_range, Bool.and_eq_true, Bool.not_eq_true'] at hj
  obtain ⟨h1, h2, h3⟩ := hj
  have hsz := h.size
  have hg : listed.getD j false = false := by
    rw [Array.getD_eq_getD_getElem?] at h2 ⊢
    rw [Array.getElem?_eq_getElem (by omega)] at h2 ⊢
    simpa using h2
  refine ⟨?_, ?_⟩
  · cases Classical.em (j ∈ l) with
    | inl h => exact h
    | inr hn => rw [(h.iff j h1).2 hn] at hg; cases hg
  · rintro k ⟨o, ho, e, he, hb, rfl⟩
    rw [ho] at h3
    simp only [Option.map_some, Option.getD_some] at h3
    have := Array.all_eq_true'.1 h3 e he
    rw [hb] at this
    simp only [Bool.not_true, Bool.false_or] at this
    have hlt : e.on < ops.size := by
      rcases Nat.lt_or_ge e.on ops.size with hh | hh
      · exact hh
      · rw [Array.getD_eq_getD_getElem?, Array.getElem?_eq_none (by omega)] at this; cases this
    exact ⟨hlt, (h.iff _ hlt).1 this⟩
theorem Left.next {listed : Array Bool} {l1 l2 : List Nat} {j : Nat} (h : Left ops listed (l1 ++ j :: l2)) (hp : ∀ k, DP ops k j → k < ops.size ∧ k ∉ (l1 ++ j :: l2)) : Left ops (listed.setIfInBounds j true) (l1 ++ l2) := by
  have hnd := h.nodup
  have hj : j ∉ l1 ++ l2 := by
    rw [List.nodup_append] at hnd
    obtain ⟨_, h2, h3⟩ := hnd
    intro hm
    rcases List.mem_append.1 hm with hm | hm
    · exact h3 j hm j (by simp) rfl
    · exact (List.nodup_cons.1 h2).1 hm
  have hjlt := h.lt j (by simp)
  refine ⟨by simp [h.size], hnd.sublist (by simp), fun i hi => h.lt i (by rcases List.mem_append.1 hi with hi | hi <;> simp [hi]), ?_, ?_⟩
  · intro i hi
    have := h.iff i hi
    rw [Array.getD_eq_getD_getElem?, Array.getElem?_setIfInBounds]
    by_cases e : j = i
    · subst e
      simp [h.size, hjlt, hj]
    · rw [if_neg e, ← Array.getD_eq_getD_getElem?, this]
      have e' : i ≠ j := fun h => e h.symm
      simp [e']
  · intro i k hd hk hkl
    by_cases e : k = j
    · subst e
      have := hp i hd
      exact ⟨this.1, fun hm => this.2 (by rcases List.mem_append.1 hm with hm | hm <;> simp [hm])⟩
    · have := h.down i k hd hk (by
        intro hm
        rcases List.mem_append.1 hm with hm | hm
        · exact hkl (by simp [hm])
        · rcases List.mem_cons.1 hm with hm | hm
          · exact e hm
          · exact hkl (by simp [hm]))
      exact ⟨this.1, fun hm => this.2 (by rcases List.mem_append.1 hm with hm | hm <;> simp [hm])⟩
theorem any_of_tw {n : Nat} {Q' : Act → World → Prop} {rd : Option Nat} (hsel : NoSel ops) (hdst : dstOk n ops.toList = true) (hQ : ∀ {a : Act} (ρ : Env) (w : World), (EnvOf n ρ a ∧ ρ.rd = rd) → Q ρ w → Q' a w) :
    ∀ (m : Nat) (l : List Nat) (ρ : Env) (S : St) (listed : Array Bool) (A : Nat → Prop) (w : World) (a : Act), l.length = m → ρ.rd = rd → TW P ops ld mk D Q l ρ S → Good D S → S A w → EnvOf n ρ a →
      Left ops listed l → l.Pairwise (Before ops ld mk) → (∀ i, i ∈ l → ∀ k, DP ops k i → k < ops.size ∧ k ≠ i) → anyR P ops Q' rd m listed a w := by
  intro m
  induction m with
  | zero =>
    intro l ρ S listed A w a hl hrd h _ hs ha hL _ _
    have : l = [] := List.eq_nil_of_length_eq_zero hl
    subst this
    refine ⟨?_, ?_⟩
    · cases hr : Region.ready .any ops listed with
      | nil => rfl
      | cons j t => exact absurd (hL.ready (j := j) (by rw [hr]; simp)).1 (by simp)
    · cases h with
      | nil h => exact hQ ρ w ⟨ha, hrd⟩ (h A w hs)
  | succ m ih =>
    intro l ρ S listed A w a hl hrd h hG hs ha hL hp hk
    refine ⟨?_, ?_⟩
    · -- the first of the list can be carried out
      intro hr
      exfalso
      cases l with
      | nil => simp at hl
      | cons i l =>
        have hi : i ∈ Region.ready .any ops listed := by
          have hlt := hL.lt i (by simp)
          simp only [Region.ready, List.mem_filter, List.mem_range, Bool.and_eq_true, Bool.not_eq_true']
          refine ⟨hlt, ?_, ?_⟩
          · have : ¬ listed.getD i false = true := fun h => (hL.iff i hlt).1 h (by simp)
            rw [Array.getD_eq_getD_getElem?] at this ⊢
            rw [Array.getElem?_eq_getElem (by rw [hL.size]; exact hlt)] at this ⊢
            simpa using this
          · rw [Array.getElem?_eq_getElem hlt]
            simp only [Option.map_some, Option.getD_some]
            refine Array.all_eq_true'.2 fun e he => ?_
            cases hb : Region.binds .any e with
            | false => rfl
            | true =>
              simp only [Bool.not_true, Bool.false_or]
              have hdp : DP ops e.on i := ⟨_, Array.getElem?_eq_getElem hlt, e, he, hb, rfl⟩
              obtain ⟨hlt', hne⟩ := hk i (by simp) e.on hdp
              refine (hL.iff _ hlt').2 fun hm => ?_
              rcases List.mem_cons.1 hm with hm | hm
              · exact hne hm
              · exact ((List.pairwise_cons.1 hp).1 _ hm).2.1 hdp
        rw [hr] at hi
        cases hi
    · intro j hj
      obtain ⟨hjl, hpre⟩ := hL.ready hj
      obtain ⟨l1, l2, rfl⟩ := List.append_of_mem hjl
      obtain ⟨oj, hoj⟩ : ∃ o, ops[j]? = some o := ⟨_, Array.getElem?_eq_getElem (hL.lt j hjl)⟩
      have hov : ∀ i, i ∈ l1 → Over ops i j ∧ Free ld mk i j := by
        intro i hi
        have hb := (List.pairwise_append.1 hp).2.2 i hi j (by simp)
        rcases hb.2.2 with ht | ⟨hap, hn⟩
        · exact absurd (by simp [hi]) (hL.tp ht hpre).2
        · exact ⟨hap, hn⟩
      have hL' := hL.next hpre
      have hp' : (l1 ++ l2).Pairwise (Before ops ld mk) := hp.sublist (by simp)
      have hk' : ∀ i, i ∈ l1 ++ l2 → ∀ k, DP ops k i → k < ops.size ∧ k ≠ i := fun i hi => hk i (by rcases List.mem_append.1 hi with hi | hi <;> simp [hi])
      have hl' : (l1 ++ l2).length = m := by simp at hl ⊢; omega
      have hdo : oj.dst.all (· < n) = true ∧ noDefer oj = true := by
        have := List.all_eq_true.1 hdst oj (by simpa using Array.mem_of_getElem? hoj)
        simpa only [Bool.and_eq_true] using this
      obtain ⟨hd, hnd⟩ := hdo
      have hy := ha.yielded ops oj
      have hrd' : ∀ v, (ρ.put oj.dst v).rd = rd := fun v => by rw [Env.put_rd, hrd]
      cases pull hsel hoj l2 l1 ρ S h hG ⟨A, w, hs⟩ hov with
      | steady v hw h' k' =>
        have hgo := ih _ _ S _ A w _ hl' (hrd' v) k' hG hs (ha.put oj.dst hd v) hL' hp' hk'
        exact opR_value (v := v) hoj hnd (by rw [hy]; exact hw) (by rw [ha.eval]; exact h' w (hG.d _ _ hs) oj.dst oj.pos oj.after oj.guard) hgo
      | pass hw k' =>
        exact opR_pass hoj (by rw [hy]; exact hw) (ih _ _ S _ A w _ hl' (hrd' undef) k' hG hs (ha.put oj.dst hd undef) hL' hp' hk')
      | maker hw h' =>
        obtain ⟨v, obj, h1, h2⟩ := h' w (hG.d _ _ hs)
        have hs' : (S.with w.heap.size obj) A (w.alloc obj) := ⟨hG.alloc _ _ _ hs, heap_alloc_new w obj, fun hA => by have := hG.lt _ _ hs _ hA; omega⟩
        have hgo := ih _ _ _ _ A _ _ hl' (hrd' v) (h2 ⟨A, _, hs'⟩) (hG.with _ _) hs' (ha.put oj.dst hd v) hL' hp' hk'
        exact opR_value (v := v) hoj hnd (by rw [hy]; exact hw) (by rw [ha.eval]; exact h1 oj.dst oj.pos oj.after oj.guard) hgo
      | peek v _ _ hw h' k' =>
        rcases h' A w hs with ⟨v2, w', h1, rfl, h2, _⟩ | ⟨nx, h0, h1, h2⟩
        · have hgo := ih _ _ S _ A w' _ hl' (hrd' v2) k' hG h2 (ha.put oj.dst hd v2) hL' hp' hk'
          exact opR_value (v := v2) hoj hnd (by rw [hy]; exact hw) (by rw [ha.eval]; exact h1 oj.dst oj.pos oj.after oj.guard) hgo
        · refine opR_call hoj hnd (by rw [hy]; exact hw) h0 (by rw [ha.eval]; exact h1 oj.dst oj.pos oj.after oj.guard) h2 ?_
          rintro v2 w' ⟨rfl, hS, _⟩
          exact ih _ _ S _ A w' _ hl' (hrd' v2) k' hG hS (ha.put oj.dst hd v2) hL' hp' hk'
      | loud S' _ _ hw hg h' k' =>
        rcases h' A w hs with ⟨v, w', h1, ⟨x, h2⟩, _⟩ | ⟨nx, h0, h1, h2⟩
        · have hgo := ih _ _ (S' x v) _ A w' _ hl' (hrd' v) (k' x v ⟨A, w', h2⟩) (hg x v) h2 (ha.put oj.dst hd v) hL' hp' hk'
          exact opR_value (v := v) hoj hnd (by rw [hy]; exact hw) (by rw [ha.eval]; exact h1 oj.dst oj.pos oj.after oj.guard) hgo
        · refine opR_call hoj hnd (by rw [hy]; exact hw) h0 (by rw [ha.eval]; exact h1 oj.dst oj.pos oj.after oj.guard) h2 ?_
          rintro v w' ⟨⟨x, hS⟩, _⟩
          exact ih _ _ (S' x v) _ A w' _ hl' (hrd' v) (k' x v ⟨A, w', hS⟩) (hg x v) hS (ha.put oj.dst hd v) hL' hp' hk'
def ordB (ops : Array Oper) (cl : Array Nat) (ld mk : List Nat) : List Nat → List Nat → Bool
  | _, [] => true
  | done, j :: rest =>
    (match ops[j]? with
     | none => false
     | some o => o.after.all (fun e => !Region.binds .any e || (done.contains e.on && e.on != j)) && !done.contains j &&
        done.all fun i => (cl.getD j 0).testBit i || ((match ops[i]? with | some oi => oi.apart ops o | none => false) && (!(ld.contains j && (ld.contains i || mk.contains i)) || (ld.contains i && mk.contains i && (ld.contains j && mk.contains j))))) &&
    ordB ops cl ld mk (j :: done) rest
def noSelB (ops : Array Oper) : Bool := ops.all fun o => match o.op with | .select .. => false | _ => true
def anyB (n : Nat) (ops : Array Oper) (ld mk ord : List Nat) : Bool :=
  noSelB ops && dstOk n ops.toList && ordB ops (Region.before ops) ld mk [] ord && (List.range ops.size).all (fun i => ord.contains i)
theorem before_inner {cl : Array Nat} : ∀ (l : List Edge) (s i : Nat), (l.foldl (fun s e => if Region.binds .any e then s ||| 2 ^ e.on ||| cl.getD e.on 0 else s) s).testBit i = true →
    s.testBit i = true ∨ ∃ e, e ∈ l ∧ Region.binds .any e = true ∧ (e.on = i ∨ (cl.getD e.on 0).testBit i = true) := by
  intro l
  induction l with
  | nil => intro s i h; exact .inl h
  | cons e l ih =>
    intro s i h
    rw [List.foldl_cons] at h
    rcases ih _ i h with h1 | ⟨e', he', h2⟩
    · by_cases hb : Region.binds .any e = true
      · rw [if_pos hb] at h1
        simp only [Nat.testBit_or, Bool.or_eq_true, Nat.testBit_two_pow, decide_eq_true_eq] at h1
        rcases h1 with (h1 | h1) | h1
        · exact .inl h1
        · exact .inr ⟨e, by simp, hb, .inl h1⟩
        · exact .inr ⟨e, by simp, hb, .inr h1⟩
      · rw [if_neg hb] at h1; exact .inl h1
    · exact .inr ⟨e', by simp [he'], h2⟩
theorem before_tp (ops : Array Oper) : ∀ j i, ((Region.before ops).getD j 0).testBit i = true → TP ops i j := by
  have key : ∀ (l : List Oper) (acc : Array Nat), (∀ k, l[k]? = ops[acc.size + k]?) → (∀ j i, (acc.getD j 0).testBit i = true → TP ops i j) →
      ∀ j i, ((l.foldl (fun acc o => acc.push (o.after.foldl (fun s e => if Region.binds .any e then s ||| 2 ^ e.on ||| acc.getD e.on 0 else s) 0)) acc).getD j 0).testBit i = true → TP ops i j := by
    intro l
    induction l with
    | nil => intro acc _ h; exact h
    | cons o l ih =>
      intro acc hl h
      rw [List.foldl_cons]
      refine ih _ (fun k => ?_) fun j i hji => ?_
      · have := hl (k + 1)
        simpa [Nat.add_assoc, Nat.add_comm 1 k] using this
      · rw [Array.getD_eq_getD_getElem?, Array.getElem?_push] at hji
        split at hji
        · rename_i hj
          have ho : ops[j]? = some o := by rw [hj]; simpa using (hl 0).symm
          simp only [Option.getD_some] at hji
          rw [← Array.foldl_toList] at hji
          rcases before_inner o.after.toList 0 i hji with h1 | ⟨e, he, hb, h2⟩
          · simp at h1
          · rcases h2 with h2 | h2
            · exact .one ⟨o, ho, e, by simpa using he, hb, h2⟩
            · exact .step ⟨o, ho, e, by simpa using he, hb, rfl⟩ (h _ _ h2)
        · exact h j i (by rw [Array.getD_eq_getD_getElem?]; exact hji)
  intro j i h
  refine key ops.toList #[] (by simp) (by simp) j i ?_
  rw [Array.foldl_toList]
  exact h
theorem ordB_spec {cl : Array Nat} (hcl : ∀ j i, (cl.getD j 0).testBit i = true → TP ops i j) : ∀ (l done : List Nat), ordB ops cl ld mk done l = true →
    (∀ j, j ∈ l → j ∉ done ∧ j < ops.size) ∧ l.Nodup ∧ l.Pairwise (Before ops ld mk) ∧ (∀ j, j ∈ l → ∀ k, DP ops k j → (k ∈ done ∨ k ∈ l) ∧ k ≠ j) ∧
      (∀ i, i ∈ done → ∀ j, j ∈ l → (TP ops i j ∨ (Apart ops i j ∧ Free ld mk i j))) := by
  intro l
  induction l with
  | nil => intro done _; exact ⟨fun _ h => (by cases h), .nil, .nil, fun _ h => (by cases h), fun _ _ _ h => (by cases h)⟩
  | cons j l ih =>
    intro done h
    simp only [ordB, Bool.and_eq_true] at h
    obtain ⟨h, hrest⟩ := h
    obtain ⟨i1, i2, i3, i4, i5⟩ := ih _ hrest
    cases ho : ops[j]? with
    | none => rw [ho] at h; cases h
    | some o =>
      rw [ho] at h
      simp only [Bool.and_eq_true, Bool.not_eq_true'] at h
      obtain ⟨⟨h1, h2⟩, h3⟩ := h
      have hjd : j ∉ done := by simpa using h2
      have hjlt : j < ops.size := (Array.getElem?_eq_some_iff.1 ho).1
      have hdp : ∀ k, DP ops k j → k ∈ done ∧ k ≠ j := by
        rintro k ⟨o', ho', e, he, hb, rfl⟩
        rw [ho] at ho'; cases ho'
        have := Array.all_eq_true'.1 h1 e he
        simpa [hb] using this
      have hpair : ∀ i, i ∈ done → (TP ops i j ∨ (Apart ops i j ∧ Free ld mk i j)) := by
        intro i hi
        have := List.all_eq_true.1 h3 i hi
        rw [Bool.or_eq_true, Bool.and_eq_true] at this
        rcases this with h | ⟨ha, hn⟩
        · exact .inl (hcl _ _ h)
        · refine .inr ⟨?_, ?_⟩
          · cases hoi : ops[i]? with
            | none => rw [hoi] at ha; cases ha
            | some oi => rw [hoi] at ha; exact ⟨oi, o, hoi, ho, ha⟩
          · rw [Bool.or_eq_true] at hn
            rcases hn with hn | hn
            · left
              rintro ⟨a, b⟩
              simp only [Bool.not_eq_true', Bool.and_eq_false_iff, Bool.or_eq_false_iff] at hn
              rcases hn with hn | ⟨hn1, hn2⟩
              · simp at hn; exact hn a
              · simp at hn1 hn2
                exact b.elim hn1 hn2
            · right
              simpa [Peeks, and_assoc] using hn
      refine ⟨?_, ?_, ?_, ?_, ?_⟩
      · intro x hx
        rcases List.mem_cons.1 hx with rfl | hx
        · exact ⟨hjd, hjlt⟩
        · exact ⟨fun hd => (i1 x hx).1 (by simp [hd]), (i1 x hx).2⟩
      · exact List.nodup_cons.2 ⟨fun hm => (i1 j hm).1 (by simp), i2⟩
      · refine List.pairwise_cons.2 ⟨fun x hx => ⟨fun e => (i1 x hx).1 (by simp [e]), fun hd => (i1 x hx).1 (by simp [(hdp x hd).1]), i5 j (by simp) x hx⟩, i3⟩
      · intro x hx k hk
        rcases List.mem_cons.1 hx with rfl | hx
        · exact ⟨.inl (hdp k hk).1, (hdp k hk).2⟩
        · obtain ⟨h1, h2⟩ := i4 x hx k hk
          refine ⟨?_, h2⟩
          rcases h1 with h1 | h1
          · rcases List.mem_cons.1 h1 with rfl | h1
            · exact .inr (by simp)
            · exact .inl h1
          · exact .inr (by simp [h1])
      · intro i hi x hx
        rcases List.mem_cons.1 hx with rfl | hx
        · exact hpair i hi
        · exact i5 i (by simp [hi]) x hx
end
theorem W.region_any {P : Program} {n id : Nat} {l : List Oper} {Q : Exit → Env → World → Prop} {ρ : Env} {w : World} (ord ld mk : List Nat) (D : World → Prop) (S : St)
    (hm : P.follows .mixedOrders = true) (hB : anyB n l.toArray ld mk ord = true) (hG : Good D S) (hS : S (fun _ => False) w.drew) (h : TW P l.toArray ld mk D (Q .normal) ord ρ S) :
    W P n (.region id l.toArray true) Q ρ w := by
  intro a ha b k cs hb
  simp only [anyB, Bool.and_eq_true] at hB
  obtain ⟨⟨⟨h1, h2⟩, h3⟩, h4⟩ := hB
  obtain ⟨s1, s2, s3, s4, _⟩ := ordB_spec (before_tp l.toArray) ord [] h3
  have hsel : NoSel l.toArray := by
    intro j o cs b hj ho
    have := Array.all_eq_true'.1 h1 o (Array.mem_of_getElem? hj)
    rw [ho] at this
    cases this
  have hcov : ∀ i, i < l.toArray.size → i ∈ ord := fun i hi => by
    have := List.all_eq_true.1 h4 i (List.mem_range.2 hi)
    simpa using this
  have hlen : ord.length = l.toArray.size := by
    have p1 : ord.length ≤ (List.range l.toArray.size).length := s2.length_le_of_subset fun x hx => List.mem_range.2 (s1 x hx).2
    have p2 : (List.range l.toArray.size).length ≤ ord.length := List.nodup_range.length_le_of_subset fun x hx => hcov x (List.mem_range.1 hx)
    simp only [List.length_range] at p1 p2
    omega
  suffices hany : anyR P l.toArray (fun a w => lift n Q .normal a w ρ.rd) ρ.rd l.toArray.size (Array.replicate l.toArray.size false) a w.drew by
    obtain ⟨a', w', hq, hs⟩ := anyR_sound l.toArray.size (w.tape w.drawn (.order b.fn id)) _ a _ hany b k cs hb
    refine ⟨.normal, a', w', hq, Steps.head stepR_region_draw ?_⟩
    simp only [Region.schedule, hm, Bool.true_or, if_true]
    exact hs
  rw [← hlen]
  refine any_of_tw hsel h2 (fun ρ' w h1 h => ⟨ρ', h1.1, h1.2, h⟩) _ ord ρ S _ (fun _ => False) w.drew a rfl rfl h hG hS ha ?_ s3 ?_
  · refine ⟨by simp [hlen], s2, fun i hi => (s1 i hi).2, ?_, fun i j _ hj hn => absurd (hcov j hj) hn⟩
    intro i hi
    have hf : (Array.replicate ord.length false).getD i false = false := by
      rw [Array.getD_eq_getD_getElem?, Array.getElem?_replicate]; split <;> rfl
    rw [hf]
    exact ⟨fun h => (by cases h), fun h => absurd (hcov i hi) h⟩
  · intro i hi k hk
    obtain ⟨h1, h2⟩ := s4 i hi k hk
    refine ⟨?_, h2⟩
    rcases h1 with h1 | h1
    · cases h1
    · exact (s1 k h1).2
end Tp
namespace Tp
open Go
def sBlk : Value → Nat
  | .slice (some a) _ _ => a.block
  | _ => 0
def sOff : Value → Nat
  | .slice (some a) _ _ => a.off
  | _ => 0
def SlAt (size : Nat) (v : Value) (n : Nat) (cs : List Value) (w : World) : Prop :=
  ((∃ a, v = .slice a 0 0) ∧ n = 0 ∧ cs = []) ∨
  ∃ b o cap c e fz, v = .slice (some ⟨b, o, none⟩) n cap ∧ n ≤ cap ∧ cap ≤ maxLen ∧ w.heap[b]? = some (.cells c e fz) ∧ o + cap * size ≤ c.size ∧ cs.length = n * size ∧ ∀ j, j < n * size → c[o + j]? = cs[j]?
theorem SlAt.nil (size : Nat) (w : World) : SlAt size (.slice none 0 0) 0 [] w := .inl ⟨⟨_, rfl⟩, rfl, rfl⟩
structure Ty (α : Type) where
  size : Nat
  rep : List Value → α → World → Prop
  len : ∀ cs x w, rep cs x w → cs.length = size
def Ty.flat {α : Type} (size : Nat) (enc : α → List Value) (h : ∀ x, (enc x).length = size) : Ty α := ⟨size, fun cs x _ => cs = enc x, fun cs x _ e => by rw [e]; exact h x⟩
def RepL {α : Type} (T : Ty α) (cs : List Value) (xs : List α) (w : World) : Prop :=
  cs.length = xs.length * T.size ∧ ∀ i x, xs[i]? = some x → T.rep ((cs.drop (i * T.size)).take T.size) x w
def RepS {α : Type} (T : Ty α) (v : Value) (xs : List α) (w : World) : Prop := ∃ cs, SlAt T.size v xs.length cs w ∧ RepL T cs xs w
section
variable {α : Type} {T : Ty α} {v : Value} {xs : List α} {w : World} {cs : List Value} {n size : Nat}
theorem SlAt.len (h : SlAt size v n cs w) : cs.length = n * size := by
  rcases h with ⟨_, rfl, rfl⟩ | ⟨_, _, _, _, _, _, _, _, _, _, _, h, _⟩
  · simp
  · exact h
theorem SlAt.le (h : SlAt size v n cs w) : n ≤ maxLen := by
  rcases h with ⟨_, rfl, rfl⟩ | ⟨_, _, _, _, _, _, _, h1, h2, _⟩
  · exact Nat.zero_le _
  · omega
theorem SlAt.value (h : SlAt size v n cs w) : ∃ a cap, v = .slice a n cap := by
  rcases h with ⟨⟨_, rfl⟩, rfl, rfl⟩ | ⟨b, o, cap, _, _, _, rfl, _⟩
  · exact ⟨_, _, rfl⟩
  · exact ⟨_, _, rfl⟩
theorem SlAt.cell (h : SlAt size v n cs w) (j : Nat) (hj : j < n * size) : w.cell? ⟨sBlk v, sOff v + j, none⟩ = cs[j]? := by
  rcases h with ⟨_, rfl, rfl⟩ | ⟨b, o, cap, c, e, fz, rfl, _, _, hb, _, _, hc⟩
  · simp at hj
  · rw [show sBlk (.slice (some ⟨b, o, none⟩) n cap) = b from rfl, show sOff (.slice (some ⟨b, o, none⟩) n cap) = o from rfl, cell_blk hb]
    exact hc j hj
theorem SlAt.base (h : SlAt size v n cs w) (hn : 0 < n) : ∃ cap, v = .slice (some ⟨sBlk v, sOff v, none⟩) n cap := by
  rcases h with ⟨_, rfl, rfl⟩ | ⟨b, o, cap, _, _, _, rfl, _⟩
  · simp at hn
  · exact ⟨cap, rfl⟩
theorem RepS.le (h : RepS T v xs w) : xs.length ≤ maxLen := let ⟨_, h, _⟩ := h; h.le
theorem RepS.nil (T : Ty α) (w : World) : RepS T (.slice none 0 0) [] w := ⟨[], SlAt.nil _ _, by simp [RepL]⟩
theorem mul_add_lt {i k n size : Nat} (hi : i < n) (hk : k < size) : i * size + k < n * size :=
  calc i * size + k < i * size + size := by omega
    _ = (i + 1) * size := by rw [Nat.add_mul, Nat.one_mul]
    _ ≤ n * size := Nat.mul_le_mul_right _ hi
def EC (v : Value) (size i : Nat) (cs : List Value) (w : World) : Prop := (∃ n cap, i < n ∧ v = .slice (some ⟨sBlk v, sOff v, none⟩) n cap) ∧ ∀ k, k < size → w.cell? ⟨sBlk v, sOff v + i * size + k, none⟩ = cs[k]?
theorem RepS.elem (h : RepS T v xs w) {i : Nat} {x : α} (hx : xs[i]? = some x) : ∃ cs, T.rep cs x w ∧ EC v T.size i cs w := by
  obtain ⟨cs, h1, h2, h3⟩ := h
  have hi : i < xs.length := (List.getElem?_eq_some_iff.1 hx).1
  refine ⟨_, h3 i x hx, ?_, fun k hk => ?_⟩
  · obtain ⟨cap, hv⟩ := h1.base (by omega)
    exact ⟨_, cap, hi, hv⟩
  · rw [Nat.add_assoc, h1.cell _ (mul_add_lt hi hk), List.getElem?_take, if_pos hk, List.getElem?_drop]
theorem elem_of_lt {i : Nat} (h : i < xs.length) : ∃ x, xs[i]? = some x := ⟨_, List.getElem?_eq_getElem h⟩
end
section
variable {α : Type} {size : Nat} {enc : α → List Value} {he : ∀ x, (enc x).length = size}
theorem drop_flatMap (he : ∀ x, (enc x).length = size) : ∀ (xs : List α) (i : Nat), (xs.flatMap enc).drop (i * size) = (xs.drop i).flatMap enc := by
  intro xs
  induction xs with
  | nil => intro i; simp
  | cons y xs ih =>
    intro i
    cases i with
    | zero => simp
    | succ i =>
      rw [List.flatMap_cons, List.drop_succ_cons, ← ih i, Nat.add_mul, Nat.one_mul, Nat.add_comm]
      rw [← List.drop_drop]
      congr 1
      rw [← he y, List.drop_left]
theorem length_flatMap (he : ∀ x, (enc x).length = size) (xs : List α) : (xs.flatMap enc).length = xs.length * size := by
  induction xs with
  | nil => simp
  | cons y xs ih => rw [List.flatMap_cons, List.length_append, ih, he, List.length_cons, Nat.add_mul, Nat.one_mul, Nat.add_comm]
theorem repL_flat (he : ∀ x, (enc x).length = size) (xs : List α) (w : World) : RepL (Ty.flat size enc he) (xs.flatMap enc) xs w := by
  refine ⟨length_flatMap he xs, fun i x hx => ?_⟩
  show ((xs.flatMap enc).drop (i * size)).take size = enc x
  rw [drop_flatMap he]
  have : xs.drop i = x :: xs.drop (i + 1) := by
    obtain ⟨h1, h2⟩ := List.getElem?_eq_some_iff.1 hx
    rw [List.drop_eq_getElem_cons h1, h2]
  rw [this, List.flatMap_cons, ← he x, List.take_left]
theorem flat_of_repL {cs : List Value} {xs : List α} {w : World} (h : RepL (Ty.flat size enc he) cs xs w) : cs = xs.flatMap enc := by
  obtain ⟨h1, h2⟩ := h
  have h1' : cs.length = xs.length * size := h1
  induction xs generalizing cs with
  | nil => simp at h1'; simpa using h1'
  | cons y xs ih =>
    have hl : size ≤ cs.length := by rw [h1', List.length_cons, Nat.add_mul]; omega
    have e1 : cs.take size = enc y := by have := h2 0 y rfl; simpa [Ty.flat] using this
    have e2 : cs.drop size = xs.flatMap enc := by
      refine ih ?_ ?_ ?_
      · show (cs.drop size).length = xs.length * size
        rw [List.length_drop, h1', List.length_cons, Nat.add_mul]; omega
      · intro i x hx
        have := h2 (i + 1) x (by simpa using hx)
        simp only [Ty.flat] at this ⊢
        rw [List.drop_drop, Nat.add_comm]
        rw [Nat.add_mul, Nat.one_mul] at this
        exact this
      · rw [List.length_drop, h1', List.length_cons, Nat.add_mul]; omega
    rw [List.flatMap_cons, ← e1, ← e2, List.take_append_drop]
theorem RepS.flat {v : Value} {xs : List α} {w : World} : RepS (Ty.flat size enc he) v xs w ↔ SlAt size v xs.length (xs.flatMap enc) w := by
  constructor
  · rintro ⟨cs, h1, h2⟩; rw [← flat_of_repL h2]; exact h1
  · exact fun h => ⟨_, h, repL_flat he xs w⟩
end
def own (e : TypeId) (size : Nat) (v : Value) (n : Nat) (cs : List Value) : Chunk := ⟨fun b => v.ownBlock = some b, fun w => w.ownsRow 0 e size v n cs⟩
section
variable {w w' : World} {e : TypeId} {size : Nat} {v : Value} {n : Nat} {cs : List Value}
theorem own_ok (h : w.ownsRow 0 e size v n cs) : (own e size v n cs).Ok w := by
  refine ⟨fun b hb => (h.lt b hb).2, fun w' hw => ⟨h.1, ?_⟩⟩
  rcases h.2 with h' | ⟨g, cap, cur, rfl, h1, h2, h3⟩
  · exact .inl h'
  · refine .inr ⟨g, cap, cur, rfl, h1, ?_, h3⟩
    rw [hw g (by simp [own, Value.ownBlock])]; exact h2
theorem own_nil (w : World) (e : TypeId) (size : Nat) : (own e size (.slice none 0 0) 0 []).Ok w := own_ok (World.ownsRow_nil w 0 e size)
theorem own_slAt (h : w.ownsRow 0 e size v n cs) : SlAt size v n cs w := by
  rcases h.2 with ⟨rfl, rfl⟩ | ⟨g, cap, cur, rfl, _, h2, h3, h4, h5, h6⟩
  · exact .inl ⟨⟨_, rfl⟩, rfl, List.eq_nil_of_length_eq_zero (by simpa using h.1)⟩
  · refine .inr ⟨g, 0, cap, cur, e, (0, 0), rfl, h3, h4, h2, by omega, h.1, fun j hj => ?_⟩
    rw [← h6, List.getElem?_take, if_pos hj]; simp
end
namespace Mem
variable {F X : Nat → Prop} {w0 w w' : World} {L : List Chunk} {R : List (World → Prop)}
theorem ownNil (M : Mem F X w0 L R w) (e : TypeId) (size : Nat) : Mem F X w0 (Tp.own e size (.slice none 0 0) 0 [] :: L) R w :=
  M.own (Mod.refl _ _) (own_nil w e size) fun b hb => by simp [Tp.own, Value.ownBlock] at hb
end Mem
namespace Step
variable {P : Program} {ρ : Env} {w w' : World} {ty : TypeId}
theorem indexAddr {t e : TypeId} {x ix : Operand} {v : Value} {b o n cap i size : Nat} {k : IntKind} {z : Int} (ht : ∀ w, (underlying t).run P w = .ok (.slice e) w) (hs : Sized P e size)
    (hx : ρ.ev x = v) (hi : ρ.ev ix = .int k z) (hz : z = (i : Int)) (hv : v = .slice (some ⟨b, o, none⟩) n cap) (hlt : i < n) : Step P (.indexAddr t x ix) ty ρ w (.pointer (some ⟨b, o + i * size, none⟩)) w := by
  intro d pos aft g
  left
  have hadd : (⟨b, o, none⟩ : Addr).add (i * size) = ⟨b, o + i * size, none⟩ := by unfold Addr.add; split <;> simp_all
  subst hz
  simp only [execOp, Instr.indexAt, hx, hi, hv, asIntOf, ht w, Sem.run_bind, Sem.run_pure, Result.andThen_ok, pure_bind]
  rw [if_pos (by omega)]
  simp [hs w, hadd]
end Step
end Tp
namespace Tp
open Go
section
variable {P : Program} {n : Nat} {Q : Exit → Env → World → Prop} {ρ : Env} {w : World} {ops : Array Oper} {rest : List Oper}
theorem WL.does {d : Option Nat} {op : Op} {ty : TypeId} {pos : String} {aft : Array Edge} {g : Option (Nat × Bool)} {R : Value → World → Prop} (hg : ρ.want ops g = true)
    (h : Does P ⟨d, op, ty, pos, aft, g⟩ ρ w R) (k : ∀ v w', R v w' → WL P n ops rest Q (ρ.put d v) w') : WL P n ops (⟨d, op, ty, pos, aft, g⟩ :: rest) Q ρ w := by
  rcases h with ⟨v, w', h1, h2⟩ | ⟨nx, h0, h1, h2⟩
  · exact WL.step hg h1 (k v w' h2)
  · exact WL.callN hg h1 h0 h2 k
end
def Und (P : Program) (t : TypeId) (d : TypeDesc) : Prop := P.underlying t = some d
theorem Und.run {P : Program} {t : TypeId} {d : TypeDesc} (h : Und P t d) (w : World) : (underlying t).run P w = .ok d w := run_underlying h w
def Elem (P : Program) (e : TypeId) (z : Value) (size bytes : Nat) : Prop := ∃ i, P.info? e = some i ∧ i.zero = some z ∧ i.size = size ∧ i.bytes = bytes
theorem Elem.mk {P : Program} {e : TypeId} {z : Value} {size bytes : Nat} (h : (P.info? e).map (fun i => (i.zero, i.size, i.bytes)) = some (some z, size, bytes)) : Elem P e z size bytes := by
  cases hi : P.info? e with
  | none => rw [hi] at h; cases h
  | some i =>
    rw [hi] at h
    simp only [Option.map_some, Option.some.injEq, Prod.mk.injEq] at h
    exact ⟨i, hi, h.1, h.2.1, h.2.2⟩
theorem Elem.sized {P : Program} {e : TypeId} {z : Value} {size bytes : Nat} (h : Elem P e z size bytes) : Sized P e size := by
  obtain ⟨i, h1, _, h3, _⟩ := h
  intro w
  simp [Go.sizeOf, typeInfo, h1, h3]
theorem Elem.zero {P : Program} {e : TypeId} {z : Value} {size bytes : Nat} (h : Elem P e z size bytes) (w : World) : (zeroValue e).run P w = .ok z w := by
  obtain ⟨i, h1, h2, _, _⟩ := h
  simp [zeroValue, typeInfo, h1, h2]
namespace Step
variable {P : Program} {ρ : Env} {w w' : World} {ty : TypeId}
theorem loadC {t : TypeId} {x : Operand} {b o k : Nat} {cs : List Value} (ht : Aggr P t k) (ha : ρ.ev x = .pointer (some ⟨b, o, none⟩))
    (hc : ∀ j, j < k → w.cell? ⟨b, o + j, none⟩ = cs[j]?) (hl : cs.length = k) : Step P (.load t x) ty ρ w (.agg cs.toArray) w := by
  intro d pos aft g
  left
  have hr := run_loadCells_list (P := P) w ⟨b, o, none⟩ cs (fun j v hj => by
    have hadd : (⟨b, o, none⟩ : Addr).add j = ⟨b, o + j, none⟩ := by unfold Addr.add; split <;> simp_all
    have hlt : j < cs.length := (List.getElem?_eq_some_iff.1 hj).1
    rw [hadd, hc j (by omega), hj])
  rw [hl] at hr
  simp [execOp, ha, Instr.loadAt, Instr.sureAddr, loadVar, ht.agg w, ht.size w, hr]
theorem loadE {t : TypeId} {x : Operand} {v u : Value} {size i k : Nat} {cs : List Value} (ht : Scal P t) (he : EC v size i cs w) (hk : k < size)
    (ha : ρ.ev x = .pointer (some ⟨sBlk v, sOff v + i * size + k, none⟩)) (hu : cs[k]? = some u) : Step P (.load t x) ty ρ w u w :=
  load1 ht ha ((he.2 k hk).trans hu)
theorem loadEN {t : TypeId} {x : Operand} {v : Value} {size i k m : Nat} {cs cs' : List Value} (ht : Aggr P t m) (he : EC v size i cs w) (hk : k + m ≤ size)
    (ha : ρ.ev x = .pointer (some ⟨sBlk v, sOff v + i * size + k, none⟩)) (hcs : (cs.drop k).take m = cs') (hl : cs'.length = m) : Step P (.load t x) ty ρ w (.agg cs'.toArray) w :=
  loadC ht ha (fun j hj => by
    rw [Nat.add_assoc _ k j, he.2 (k + j) (by omega), ← hcs, List.getElem?_take, if_pos hj, List.getElem?_drop]) hl
theorem lenS {t e : TypeId} {x : Operand} {v : Value} {a : Option Addr} {n cap : Nat} (ht : Und P t (.slice e)) (hx : ρ.ev x = v) (hv : v = .slice a n cap) :
    Step P (.call { callee := .builtin .len, args := #[x], argTypes := #[t] }) ty ρ w (.int .i64 n) w := by
  intro d pos aft g
  left
  subst hv
  simp [execOp, resolve, invoke, builtin, hx, Builtin.len_, ht.run, goInt]
theorem lenSl {t e : TypeId} {x : Operand} {v : Value} {n size : Nat} {cs : List Value} (ht : Und P t (.slice e)) (hx : ρ.ev x = v) (hv : SlAt size v n cs w) :
    Step P (.call { callee := .builtin .len, args := #[x], argTypes := #[t] }) ty ρ w (.int .i64 n) w := by
  obtain ⟨a, cap, h⟩ := hv.value
  exact lenS ht hx h
theorem lenStr {t : TypeId} {x : Operand} {s : ByteArray} (ht : Und P t .string) (hx : ρ.ev x = .string s) :
    Step P (.call { callee := .builtin .len, args := #[x], argTypes := #[t] }) ty ρ w (.int .i64 s.size) w := by
  intro d pos aft g
  left
  simp [execOp, resolve, invoke, builtin, hx, Builtin.len_, ht.run, goInt]
theorem add {t ty' : TypeId} {x y : Operand} {k : IntKind} {a b c : Int} (hx : ρ.ev x = .int k a) (hy : ρ.ev y = .int k b) (hc : k.wrap (a + b) = c) : Step P (.binOp .add t x y ty') ty ρ w (.int k c) w := by
  intro d pos aft g
  left
  simp [execOp, eqGuard, hx, hy, binOp, Op.intArith, hc]
theorem sub {t ty' : TypeId} {x y : Operand} {k : IntKind} {a b c : Int} (hx : ρ.ev x = .int k a) (hy : ρ.ev y = .int k b) (hc : k.wrap (a - b) = c) : Step P (.binOp .sub t x y ty') ty ρ w (.int k c) w := by
  intro d pos aft g
  left
  simp [execOp, eqGuard, hx, hy, binOp, Op.intArith, hc]
theorem mul {t ty' : TypeId} {x y : Operand} {k : IntKind} {a b c : Int} (hx : ρ.ev x = .int k a) (hy : ρ.ev y = .int k b) (hc : k.wrap (a * b) = c) : Step P (.binOp .mul t x y ty') ty ρ w (.int k c) w := by
  intro d pos aft g
  left
  simp [execOp, eqGuard, hx, hy, binOp, Op.intArith, hc]
end Step
def RV (P : Program) (ρ : Env) (w : World) : ResultVar → Value → Prop
  | .tmp t, v => ρ.f t = v
  | .cell t ty, v => ∃ a, ρ.f t = .pointer (some a) ∧ (loadVar ty a).run P w = .ok v w
section
variable {P : Program} {ρ : Env} {w : World}
def rvSem (tmps : Array Value) : ResultVar → Sem Value
  | .tmp t => Pure.pure (tmps.getD t undef)
  | .cell a t => do loadVar t (← asAddr (tmps.getD a undef))
theorem RV.run {r : ResultVar} {v : Value} (h : RV P ρ w r v) {tmps : Array Value} (hg : ∀ t, tmps.getD t undef = ρ.f t) : (rvSem tmps r).run P w = .ok v w := by
  cases r with
  | tmp t => simp only [rvSem, hg]; rw [show ρ.f t = v from h]; simp
  | cell a t =>
    obtain ⟨ad, h1, h2⟩ := h
    simp only [rvSem, hg, h1, asAddr, Sem.run_bind, Sem.run_pure, Result.andThen_ok, h2]
inductive RVs (P : Program) (ρ : Env) (w : World) : List ResultVar → List Value → Prop
  | nil : RVs P ρ w [] []
  | cons {r : ResultVar} {v : Value} {rs : List ResultVar} {vs : List Value} (h : RV P ρ w r v) (t : RVs P ρ w rs vs) : RVs P ρ w (r :: rs) (v :: vs)
theorem RVs.run {rs : List ResultVar} {vs : List Value} (h : RVs P ρ w rs vs) {tmps : Array Value} (hg : ∀ t, tmps.getD t undef = ρ.f t) : (rs.mapM (rvSem tmps)).run P w = .ok vs w := by
  induction h with
  | nil => simp
  | cons h _ ih => rw [List.mapM_cons, Sem.run_bind, h.run hg, Result.andThen_ok, Sem.run_bind, ih, Result.andThen_ok]; rfl
theorem RVs.res {rs : List ResultVar} {vs : List Value} (h : RVs P ρ w rs vs) (v : Value) (hv : (if h : vs.toArray.size = 1 then vs.toArray[0] else .tuple vs.toArray) = v) : Res P rs.toArray ρ w v := by
  intro fn tmps hr hg
  have e : results fn tmps = (do let us ← fn.results.mapM (rvSem tmps); Pure.pure (if h : us.size = 1 then us[0] else .tuple us)) := by
    unfold results
    congr 1
  have h1 := h.run hg
  rw [e, hr, List.mapM_toArray, Sem.run_bind]
  have : (Functor.map List.toArray (List.mapM (rvSem tmps) rs)).run P w = .ok vs.toArray w := by
    rw [show (Functor.map List.toArray (List.mapM (rvSem tmps) rs)) = (List.mapM (rvSem tmps) rs >>= fun l => Pure.pure l.toArray) from rfl, Sem.run_bind, h1]; rfl
  rw [this, Result.andThen_ok, Sem.run_pure, hv]
theorem Res.r1 {r : ResultVar} {v : Value} (h : RV P ρ w r v) : Res P #[r] ρ w v := (RVs.cons h .nil).res _ rfl
theorem Res.r2 {r1 r2 : ResultVar} {v1 v2 : Value} (h1 : RV P ρ w r1 v1) (h2 : RV P ρ w r2 v2) : Res P #[r1, r2] ρ w (.tuple #[v1, v2]) := (RVs.cons h1 (.cons h2 .nil)).res _ rfl
theorem Res.r3 {r1 r2 r3 : ResultVar} {v1 v2 v3 : Value} (h1 : RV P ρ w r1 v1) (h2 : RV P ρ w r2 v2) (h3 : RV P ρ w r3 v3) : Res P #[r1, r2, r3] ρ w (.tuple #[v1, v2, v3]) := (RVs.cons h1 (.cons h2 (.cons h3 .nil))).res _ rfl
theorem Res.r4 {r1 r2 r3 r4 : ResultVar} {v1 v2 v3 v4 : Value} (h1 : RV P ρ w r1 v1) (h2 : RV P ρ w r2 v2) (h3 : RV P ρ w r3 v3) (h4 : RV P ρ w r4 v4) : Res P #[r1, r2, r3, r4] ρ w (.tuple #[v1, v2, v3, v4]) := (RVs.cons h1 (.cons h2 (.cons h3 (.cons h4 .nil)))).res _ rfl
theorem loadVar_blk {t : TypeId} {b o k : Nat} {c cs : Array Value} {e : TypeId} {fz : Nat × Nat} (ht : Aggr P t k)
    (hb : w.heap[b]? = some (.cells c e fz)) (hs : o + k ≤ c.size) (hcs : c.extract o (o + k) = cs) : (loadVar t ⟨b, o, none⟩).run P w = .ok (.agg cs) w := by
  have h := Step.loadN (ty := 0) (x := .const (.pointer (some ⟨b, o, none⟩))) (ρ := ⟨fun _ => undef, [], none⟩) ht rfl hb hs hcs none "" #[] none
  rcases h with h | ⟨h, _⟩
  · have e : (execOp (Env.ev ⟨fun _ => undef, [], none⟩) { dst := none, op := .load t (.const (.pointer (some ⟨b, o, none⟩))), type := 0, pos := "", after := #[], guard := none }) =
        (do Pure.pure (Next.value (← loadVar t ⟨b, o, none⟩)) : Sem Next) := by simp [execOp, Instr.loadAt, Instr.sureAddr, Env.ev]
    rw [e, Sem.run_bind] at h
    cases hl : (loadVar t ⟨b, o, none⟩).run P w with
    | ok v w' => rw [hl] at h; simp at h; obtain ⟨rfl, rfl⟩ := h; rfl
    | halt x w' => rw [hl] at h; cases h
  · exfalso
    have e : (execOp (Env.ev ⟨fun _ => undef, [], none⟩) { dst := none, op := .load t (.const (.pointer (some ⟨b, o, none⟩))), type := 0, pos := "", after := #[], guard := none }) =
        (do Pure.pure (Next.value (← loadVar t ⟨b, o, none⟩)) : Sem Next) := by simp [execOp, Instr.loadAt, Instr.sureAddr, Env.ev]
    rw [e, Sem.run_bind] at h
    cases hl : (loadVar t ⟨b, o, none⟩).run P w with
    | ok v w' => rw [hl] at h; simp at h
    | halt x w' => rw [hl] at h; cases h
theorem RV.cellN {s t : TypeId} {b k : Nat} {c : Array Value} {e : TypeId} {fz : Nat × Nat} (ht : Aggr P t k) (hs : ρ.f s = .pointer (some ⟨b, 0, none⟩))
    (hb : w.heap[b]? = some (.cells c e fz)) (hk : c.size = k) : RV P ρ w (.cell s t) (.agg c) :=
  ⟨_, hs, loadVar_blk ht hb (by omega) (by rw [Nat.zero_add, ← hk]; exact Array.extract_size)⟩
end
theorem wrap_i64 {a : Int} (h : -9223372036854775808 ≤ a ∧ a ≤ 9223372036854775807) : IntKind.i64.wrap a = a := IntWalk.i64_in a h
theorem SlAt.srcCells {size : Nat} {v : Value} {m : Nat} {cs : List Value} {w : World} (h : SlAt size v m cs w) (a : Addr) (cap : Nat) (hv : v = .slice (some a) m cap) : ∀ j u, cs[j]? = some u → w.cell? (a.add j) = some u := by
  intro j u hu
  rcases h with ⟨⟨_, rfl⟩, rfl, rfl⟩ | ⟨b, o, cap', c, e, fz, rfl, _, _, hb, _, hl, hc⟩
  · simp at hu
  · simp only [Value.slice.injEq, Option.some.injEq] at hv
    obtain ⟨rfl, _, _⟩ := hv
    have hadd : (⟨b, o, none⟩ : Addr).add j = ⟨b, o + j, none⟩ := by unfold Addr.add; split <;> simp_all
    rw [hadd, cell_blk hb, hc j (by rw [← hl]; exact (List.getElem?_eq_some_iff.1 hu).1), hu]
theorem append_run {P : Program} {w : World} {t ty e : TypeId} {z : Value} {size bytes : Nat} (ht : Und P t (.slice e)) (he : Elem P e z size bytes) (hzs : z.cells.size = size) (hsz : 0 < size)
    {v : Value} {n : Nat} {cs : List Value} (hown : w.ownsRow 0 e size v n cs) {sv : Value} {m : Nat} {news : List Value} (hsrc : SlAt size sv m news w) (h1 : ∀ u, u ∈ news → u.oneCell' = true)
    (h63 : n + m ≤ maxLen) (hb : (n + m) * bytes ≤ 140737488355328) :
    ∃ v' w', (Builtin.append_ #[t, t] ty #[v, sv]).run P w = .ok v' w' ∧ w'.ownsRow 0 e size v' (n + m) (cs ++ news) ∧ Mod (fun b => v.ownBlock = some b) w w' ∧
      ∀ b, v'.ownBlock = some b → v.ownBlock = some b ∨ w.heap.size ≤ b := by
  obtain ⟨i, hi, hz, hs, hby⟩ := he
  subst hs
  subst hby
  have hlen : (cs ++ news).length = (n + m) * i.size := by rw [List.length_append, hown.1, hsrc.len, Nat.add_mul]
  have hsmall : n + m ≤ 9223372036854775807 := by simp only [maxLen] at h63; omega
  -- nothing is appended from a nil slice
  have none_case : sv = .slice none 0 0 → m = 0 → news = [] → ∃ v' w', (Builtin.append_ #[t, t] ty #[v, sv]).run P w = .ok v' w' ∧ w'.ownsRow 0 e i.size v' (n + m) (cs ++ news) ∧ Mod (fun b => v.ownBlock = some b) w w' ∧
      ∀ b, v'.ownBlock = some b → v.ownBlock = some b ∨ w.heap.size ≤ b := by
    rintro rfl rfl rfl
    exact ⟨v, w, run_append_owned_none (P := P) (w := w) 0 t ty e i i.size ht hi v n cs hown, by simpa using hown, Mod.refl _ _, fun b hb => .inl hb⟩
  have hways : (sv = .slice none 0 0 ∧ m = 0 ∧ news = []) ∨ ∃ a m', sv = .slice (some a) m m' := by
    rcases hsrc with ⟨⟨a, hsv⟩, hm, hne⟩ | ⟨b, o, cap, _, _, _, h, _⟩
    · cases a with
      | none => exact .inl ⟨hsv, hm, hne⟩
      | some a => exact .inr ⟨a, 0, by rw [hsv, hm]⟩
    · exact .inr ⟨_, _, h⟩
  rcases hways with ⟨hsv, hm, hne⟩ | ⟨a, m', hsv⟩
  · exact none_case hsv hm hne
  have hl := hsrc.len
  have hnews := hsrc.srcCells a m' hsv
  subst hsv
  have grown : ∀ (old : Nat), old < n + m →
      (w.drew.alloc (.cells (cs.toArray ++ news.toArray ++ Builtin.zeroCells z.cells (grownCap w (n + m) old e - (n + m))) e)).ownsRow 0 e i.size
        (.slice (some ⟨w.heap.size, 0, none⟩) (n + m) (grownCap w (n + m) old e)) (n + m) (cs ++ news) := by
    intro old ho
    have hge := grownCap_ge w (n + m) old e
    have hcm : grownCap w (n + m) old e ≤ maxLen := grownCap_le_maxLen w (n + m) old e h63
    refine ⟨hlen, .inr ⟨w.heap.size, _, _, rfl, Nat.zero_le _, heap_alloc_new w.drew _, hge, hcm, ?_, ?_⟩⟩
    · simp only [Array.size_append, List.size_toArray, size_zeroCells, hzs, hown.1, hl, ← Nat.add_mul]
      congr 1
      omega
    · simp only [Array.toList_append, List.append_assoc]
      rw [← List.append_assoc, ← hlen]
      exact List.take_left
  have modA : ∀ o : Obj, Mod (fun b => v.ownBlock = some b) w (w.drew.alloc o) := fun o =>
    ⟨rfl, rfl, rfl, by simp, fun b hb _ => heap_alloc_old w.drew o hb, Nat.le_succ _⟩
  rcases hown.2 with ⟨rfl, rfl⟩ | ⟨g, cap, cur, rfl, _, hg, hnc, hcm, hcs, htake⟩
  · have hx : cs = [] := List.eq_nil_of_length_eq_zero (by simpa using hown.1)
    subst hx
    by_cases hm : m = 0
    · subst hm
      have hn : news = [] := List.eq_nil_of_length_eq_zero (by simpa using hl)
      subst hn
      refine ⟨.slice none 0 0, w, ?_, World.ownsRow_nil w 0 e i.size, Mod.refl _ _, fun b hb => .inl hb⟩
      simp [Builtin.append_, run_underlying ht, Go.sizeOf, typeInfo, hi, Builtin.lenOf, Builtin.firstCells, loadCells, loadCellsFrom]
    · have hr := run_append_nil (P := P) w t ty e i z ht hi hz a m m' news hl hnews (by omega) (by omega) (by have hb := hb; simp only [Nat.zero_add] at hb; omega)
      have hgr := grown 0 (by omega)
      simp only [Nat.zero_add, List.nil_append, Array.empty_append] at hgr ⊢
      exact ⟨_, _, hr, hgr, modA _, fun b hb => .inr (by simp [Value.ownBlock] at hb; omega)⟩
  · by_cases hroom : n + m ≤ cap
    · have hfit : n * i.size + news.length ≤ cur.size := by rw [hl, hcs, ← Nat.add_mul]; exact Nat.mul_le_mul_right _ hroom
      have hr := run_append_room (P := P) w t ty e i ht hi g n cap cur hg a m m' news hl hnews h1 hroom hfit
      refine ⟨_, _, hr, ⟨hlen, .inr ⟨g, cap, _, rfl, Nat.zero_le _, setRow_heap w g cur _ e _ hg, hroom, hcm, ?_, ?_⟩⟩, ⟨rfl, rfl, rfl, by simp, fun k _ hk => setRow_other w g k _ (fun e => hk (by simp [Value.ownBlock, e])), Nat.le_refl _⟩, fun b hb => .inl hb⟩
      · simp only [List.size_toArray, List.length_append, List.length_take, List.length_drop, Array.length_toList]
        omega
      · rw [htake, ← hlen]
        exact List.take_left
    · have holds : ∀ j u, cs[j]? = some u → w.cell? ((⟨g, 0, none⟩ : Addr).add j) = some u := hown.cells (g := g) rfl
      have hr := run_append_grow (P := P) w t ty e i z ht hi hz ⟨g, 0, none⟩ n cap cs hown.1 holds a m m' news hl hnews (by omega) (by omega) (growslice_fits (by omega) hb)
      exact ⟨_, _, hr, grown cap (by omega), modA _, fun b hb => .inr (by simp [Value.ownBlock] at hb; omega)⟩
theorem SlAt.of_blk {w : World} {b : Nat} {c : Array Value} {e : TypeId} {fz : Nat × Nat} {n size : Nat} (h : w.heap[b]? = some (.cells c e fz)) (hs : c.size = n * size) (hn : n ≤ maxLen) :
    SlAt size (.slice (some ⟨b, 0, none⟩) n n) n c.toList w :=
  .inr ⟨b, 0, n, c, e, fz, rfl, Nat.le_refl _, hn, h, by omega, by simpa using hs, fun j _ => by simp⟩
theorem Mem.append {P : Program} {F X : Nat → Prop} {w0 w : World} {L : List Chunk} {R : List (World → Prop)} {ρ : Env} {d : Option Nat} {pos : String} {aft : Array Edge} {g : Option (Nat × Bool)} {t ty e : TypeId} {z : Value} {size bytes : Nat} {x y : Operand}
    {v sv : Value} {n m : Nat} {cs news : List Value} (M : Mem F X w0 L R w) (i : Nat) (ht : Und P t (.slice e)) (he : Elem P e z size bytes) (hzs : z.cells.size = size) (hsz : 0 < size)
    (hx : ρ.ev x = v) (hy : ρ.ev y = sv) (hi : L[i]? = some (Tp.own e size v n cs)) (hsrc : SlAt size sv m news w) (h1 : ∀ u, u ∈ news → u.oneCell' = true)
    (h63 : n + m ≤ maxLen) (hb : (n + m) * bytes ≤ 140737488355328) :
    Does P ⟨d, .call { callee := .builtin .append, args := #[x, y], argTypes := #[t, t] }, ty, pos, aft, g⟩ ρ w fun v' w' =>
      (Tp.own e size v' (n + m) (cs ++ news)).Ok w' ∧ Mod (Tp.own e size v n cs).foot w w' ∧ Mem F X w0 (L.set i (Tp.own e size v' (n + m) (cs ++ news))) R w' := by
  have hown : w.ownsRow 0 e size v n cs := (M.chunk i hi).inv
  obtain ⟨v', w', hr, h2, h3, h4⟩ := append_run (ty := ty) ht he hzs hsz hown hsrc h1 h63 hb
  refine .inl ⟨v', w', fun d pos aft g => .inl ?_, own_ok h2, h3, M.turn i hi h3 (own_ok h2) h4⟩
  simp only [execOp, resolve, invoke, builtin, Sem.run_bind, Sem.run_pure, Result.andThen_ok, List.map_toArray, List.map_cons, List.map_nil, hx, hy, hr]
end Tp
namespace Tp
open Go
def fl (A : Nat → Prop) : Chunk := ⟨A, fun _ => True⟩
def MemA (F X : Nat → Prop) (w0 : World) (L : List Chunk) (R : List (World → Prop)) : St := fun A w => Mem F X w0 (fl A :: L) R w
def Dm (F X : Nat → Prop) (w0 : World) (L : List Chunk) (R : List (World → Prop)) (w : World) : Prop := ∃ A, Mem F X w0 (fl A :: L) R w
section
variable {F X : Nat → Prop} {w0 w w' : World} {L : List Chunk} {R : List (World → Prop)} {A : Nat → Prop}
theorem fl_ok (h : ∀ b, A b → b < w.heap.size) : (fl A).Ok w := ⟨h, fun _ _ => trivial⟩
theorem MemA.alloc (M : MemA F X w0 L R A w) (o : Obj) : MemA F X w0 L R (fun x => x = w.heap.size ∨ A x) (w.alloc o) := by
  have M2 : Mem F X w0 (Tp.blk w.heap.size o :: fl A :: L) R (w.alloc o) := Mem.push M o
  refine ⟨M2.mod, ?_, ?_, ?_, ?_⟩
  · intro c hc
    rcases List.mem_cons.1 hc with rfl | hc
    · exact fl_ok fun b hb => hb.elim (fun e => by rw [e]; simp) fun hA => (M2.ok (fl A) (by simp)).lt b hA
    · exact M2.ok c (by simp [hc])
  · have h1 := List.pairwise_cons.1 M2.disj
    have h2 := List.pairwise_cons.1 h1.2
    refine List.pairwise_cons.2 ⟨fun d hd b hb => ?_, h2.2⟩
    rcases hb with hb | hb
    · exact h1.1 d (by simp [hd]) b hb
    · exact h2.1 d hd b hb
  · intro c hc b hb
    rcases List.mem_cons.1 hc with rfl | hc
    · rcases hb with hb | hb
      · exact M2.in_ (Tp.blk w.heap.size o) (by simp) b hb
      · exact M2.in_ (fl A) (by simp) b hb
    · exact M2.in_ c (by simp [hc]) b hb
  · intro r hr
    refine (M2.sh r hr).mono fun b hb _ => ⟨hb.1, fun c hc => ?_⟩
    rcases List.mem_cons.1 hc with rfl | hc
    · exact fun hf => hf.elim (hb.2 (Tp.blk w.heap.size o) (by simp)) (hb.2 (fl A) (by simp))
    · exact hb.2 c (by simp [hc])
theorem MemA.of_with {b : Nat} {o : Obj} (h : ((MemA F X w0 L R).with b o) A w) : MemA F X w0 (Tp.blk b o :: L) R A w := by
  obtain ⟨M, hb, hA⟩ := h
  refine ⟨M.mod, ?_, ?_, ?_, ?_⟩
  · intro c hc
    rcases List.mem_cons.1 hc with rfl | hc
    · exact fl_ok fun x hx => (M.ok _ (List.mem_cons_self ..)).lt x (.inr hx)
    · rcases List.mem_cons.1 hc with rfl | hc
      · exact blk_ok hb
      · exact M.ok c (by simp [hc])
  · have h1 := List.pairwise_cons.1 M.disj
    refine List.pairwise_cons.2 ⟨fun d hd x hx hx' => ?_, List.pairwise_cons.2 ⟨fun d hd x hx => h1.1 d hd x (.inl hx), h1.2⟩⟩
    rcases List.mem_cons.1 hd with rfl | hd
    · exact hA (by rw [← show x = b from hx']; exact hx)
    · exact h1.1 d hd x (.inr hx) hx'
  · intro c hc x hx
    rcases List.mem_cons.1 hc with rfl | hc
    · exact M.in_ _ (List.mem_cons_self ..) x (.inr hx)
    · rcases List.mem_cons.1 hc with rfl | hc
      · exact M.in_ _ (List.mem_cons_self ..) x (.inl hx)
      · exact M.in_ c (by simp [hc]) x hx
  · intro r hr
    refine (M.sh r hr).mono fun x hx _ => ⟨hx.1, fun c hc => ?_⟩
    rcases List.mem_cons.1 hc with rfl | hc
    · exact fun hf => hx.2 _ (List.mem_cons_self ..) (.inr hf)
    · rcases List.mem_cons.1 hc with rfl | hc
      · exact fun hf => hx.2 _ (List.mem_cons_self ..) (.inl hf)
      · exact hx.2 c (by simp [hc])
theorem MemA.to_with {b : Nat} {o : Obj} (M : MemA F X w0 (Tp.blk b o :: L) R A w) : ((MemA F X w0 L R).with b o) A w := by
  have hb : w.heap[b]? = some o := Mem.blk M 1 rfl
  refine ⟨⟨M.mod, ?_, ?_, ?_, ?_⟩, hb, fun hA => (List.pairwise_cons.1 M.disj).1 (Tp.blk b o) (List.mem_cons_self ..) b hA rfl⟩
  · intro c hc
    rcases List.mem_cons.1 hc with rfl | hc
    · exact fl_ok fun x hx => hx.elim (fun e => by rw [e]; exact lt_of_blk hb) fun hA => (M.ok (fl A) (by simp)).lt x hA
    · exact M.ok c (by simp [hc])
  · have h1 := List.pairwise_cons.1 M.disj
    have h2 := List.pairwise_cons.1 h1.2
    refine List.pairwise_cons.2 ⟨fun d hd x hx => ?_, h2.2⟩
    rcases hx with hx | hx
    · exact h2.1 d hd x hx
    · exact h1.1 d (by simp [hd]) x hx
  · intro c hc x hx
    rcases List.mem_cons.1 hc with rfl | hc
    · rcases hx with hx | hx
      · exact M.in_ (Tp.blk b o) (by simp) x hx
      · exact M.in_ (fl A) (by simp) x hx
    · exact M.in_ c (by simp [hc]) x hx
  · intro r hr
    refine (M.sh r hr).mono fun x hx _ => ⟨hx.1, fun c hc => ?_⟩
    rcases List.mem_cons.1 hc with rfl | hc
    · exact fun hf => hf.elim (hx.2 (Tp.blk b o) (by simp)) (hx.2 (fl A) (by simp))
    · exact hx.2 c (by simp [hc])
theorem good_mem {L' : List Chunk} {R' : List (World → Prop)} (hL : L'.Sublist L) (hR : ∀ r, r ∈ R' → r ∈ R) : Good (Dm F X w0 L' R') (MemA F X w0 L R) where
  d A _ M := ⟨A, Mem.sub M (hL.cons_cons _) hR⟩
  alloc _ _ o M := M.alloc o
  lt _ _ M := (Mem.chunk M 0 rfl).lt
theorem Good.and {D : World → Prop} {S : St} {p : Prop} (h : Good D S) : Good D fun A w => p ∧ S A w where
  d A w hs := h.d A w hs.2
  alloc A w o hs := ⟨hs.1, h.alloc A w o hs.2⟩
  lt A w hs := h.lt A w hs.2
theorem MemA.start (M : Mem F X w0 L R w) : MemA F X w0 L R (fun _ => False) w.drew :=
  M.tick.own (Mod.refl _ _) (fl_ok fun _ h => h.elim) fun _ h => h.elim
theorem MemA.stop (M : MemA F X w0 L R A w) : Mem F X w0 L R w := Mem.sub M (List.sublist_cons_self ..) fun _ h => h
theorem MemA.keep (M : MemA F X w0 L R A w) (h : Old w w') : ∀ b, A b → w'.heap[b]? = w.heap[b]? := fun b hb => h.block b ((Mem.chunk M 0 rfl).lt b hb) id
end
section
variable {P : Program} {ops : Array Oper} {ld mk : List Nat} {D : World → Prop} {Q : Env → World → Prop} {i : Nat} {d : Option Nat} {op : Op} {ty : TypeId} {pos : String} {aft : Array Edge} {g : Option (Nat × Bool)}
  {rest : List Nat} {ρ : Env} {S : St}
theorem TW.step {v : Value} (hi : ops[i]? = some ⟨d, op, ty, pos, aft, g⟩) (hl : i ∉ ld) (hm : i ∉ mk) (hw : ρ.want ops g = true)
    (h : ∀ w, D w → Step P op ty ρ w v w) (k : TW P ops ld mk D Q rest (ρ.put d v) S) : TW P ops ld mk D Q (i :: rest) ρ S := .steady hi hl hm hw h k
theorem TW.skip (hi : ops[i]? = some ⟨d, op, ty, pos, aft, g⟩) (hw : ρ.want ops g = false) (k : TW P ops ld mk D Q rest (ρ.put d undef) S) : TW P ops ld mk D Q (i :: rest) ρ S := .pass hi hw k
theorem TW.does (S' : Value → St) (hi : ops[i]? = some ⟨d, op, ty, pos, aft, g⟩) (hl : i ∈ ld) (hw : ρ.want ops g = true) (hg : ∀ v, Good D (S' v))
    (h : ∀ A w, S A w → Does P ⟨d, op, ty, pos, aft, g⟩ ρ w fun v w' => S' v A w' ∧ ∀ b, A b → w'.heap[b]? = w.heap[b]?)
    (k : ∀ v, (∃ A w, S' v A w) → TW P ops ld mk D Q rest (ρ.put d v) (S' v)) (hm : i ∉ mk := by decide) : TW P ops ld mk D Q (i :: rest) ρ S := .loud (hm := hm) S' hi hl hw hg h k
theorem Does.call {w : World} {f : FuncId} {args : Array Value} {R : Value → World → Prop} (hc : CallsF P op ty ρ w f args) (h : Rets P f args w R) : Does P ⟨d, op, ty, pos, aft, g⟩ ρ w R := Does.call' hc h
theorem Does.step {w w' : World} {v : Value} {R : Value → World → Prop} (h : Step P op ty ρ w v w') (hR : R v w') : Does P ⟨d, op, ty, pos, aft, g⟩ ρ w R := .inl ⟨v, w', h, hR⟩
end
theorem Step.cast {P : Program} {op : Op} {ty : TypeId} {ρ : Env} {w w' : World} {v v' : Value} (e : v = v') (h : Step P op ty ρ w v w') : Step P op ty ρ w v' w' := e ▸ h
def cellB : Value → Bool
  | .agg _ | .tuple _ => false
  | _ => true
theorem cel_nil : Step.Cellish [] := fun _ h => (by cases h)
theorem cel_cons {v : Value} {l : List Value} (h : cellB v = true) (t : Step.Cellish l) : Step.Cellish (v :: l) := by
  intro u hu
  rcases List.mem_cons.1 hu with rfl | hu
  · exact ⟨fun cs e => (by rw [e] at h; cases h), fun vs e => (by rw [e] at h; cases h)⟩
  · exact t u hu
theorem Step.Cellish.one {l : List Value} (h : Step.Cellish l) : ∀ u, u ∈ l → u.oneCell' = true := by
  intro u hu
  have := h u hu
  cases u <;> first | rfl | (exact absurd rfl (this.1 _)) | (exact absurd rfl (this.2 _))
def IsSl (v : Value) : Prop := ∃ a n c, v = .slice a n c
theorem IsSl.cells {v : Value} (h : IsSl v) : v.cells = #[v] := by obtain ⟨a, n, c, rfl⟩ := h; rfl
theorem IsSl.list {v : Value} (h : IsSl v) : v.cells.toList = [v] := by rw [h.cells]
theorem IsSl.cel {v : Value} (h : IsSl v) : cellB v = true := by obtain ⟨a, n, c, rfl⟩ := h; rfl
theorem SlAt.isSl {size n : Nat} {v : Value} {cs : List Value} {w : World} (h : SlAt size v n cs w) : IsSl v := by
  obtain ⟨a, cap, rfl⟩ := h.value; exact ⟨_, _, _, rfl⟩
theorem RepS.isSl {α : Type} {T : Ty α} {v : Value} {xs : List α} {w : World} (h : RepS T v xs w) : IsSl v := let ⟨_, h, _⟩ := h; h.isSl
theorem SlAt.cel {size n : Nat} {v : Value} {cs : List Value} {w : World} (h : SlAt size v n cs w) : cellB v = true := by
  obtain ⟨a, cap, rfl⟩ := h.value; rfl
theorem flat_ec {α : Type} {size : Nat} {enc : α → List Value} {xs : List α} {v : Value} {w : World} {i : Nat} {x : α} (h : SlAt size v xs.length (xs.flatMap enc) w) (hx : xs[i]? = some x) (he : ∀ x, (enc x).length = size) :
    EC v size i (enc x) w := by
  obtain ⟨cs, h1, h2⟩ := RepS.elem (T := Ty.flat size enc he) (RepS.flat.2 h) hx
  have : cs = enc x := h1
  rw [this] at h2
  exact h2
namespace Mem
variable {F X : Nat → Prop} {w0 w w' : World} {L : List Chunk} {R : List (World → Prop)}
theorem nil (w : World) : Mem F X w [] [] w := Mem.start w fun _ h => (by cases h)
theorem up (M : Mem F X w0 L R w) (h : Old w w') {r : World → Prop} (hr : Sh (fun b => ((F b ∨ w0.heap.size ≤ b) ∧ avoid L b) ∨ w.heap.size ≤ b) r w') : Sh (fun b => (F b ∨ w0.heap.size ≤ b) ∧ avoid L b) r w' :=
  hr.mono fun b hb _ => hb.elim id fun hge => ⟨.inr (Nat.le_trans M.mod.size hge), fun c hc hf => by have := (M.ok c hc).lt b hf; omega⟩
theorem zero {i : Nat} {X : Nat → Prop} (M : Mem F X w0 L R w) {c : Chunk} (h : L[i]? = some c) (hX : ∀ b, ¬ X b) : ∀ b, c.foot b → F b ∨ w0.heap.size ≤ b := fun b hb => .inr ((M.in_ c (List.mem_of_getElem? h) b hb).resolve_left (hX b))
end Mem
section
variable {P : Program} {n : Nat} {Q : Exit → Env → World → Prop} {ρ : Env} {w w0 : World} {ops : Array Oper} {rest : List Oper} {F X : Nat → Prop} {L L' : List Chunk} {R : List (World → Prop)}
variable {d : Option Nat} {op : Op} {ty : TypeId} {pos : String} {aft : Array Edge} {g : Option (Nat × Bool)}
theorem WL.alloc {t : TypeId} {z : Value} {c : Array Value} (M : Mem F X w0 L R w) (hg : ρ.want ops g = true) (hz : ∀ w, (zeroValue t).run P w = .ok z w) (hc : z.cells = c)
    (k : ∀ b w', w0.heap.size ≤ b → Mem F X w0 (blk b (.cells c t) :: L) R w' → WL P n ops rest Q (ρ.put d (.pointer (some ⟨b, 0, none⟩))) w') : WL P n ops (⟨d, .alloc t, ty, pos, aft, g⟩ :: rest) Q ρ w := by
  subst hc
  exact WL.step hg (Step.alloc hz) (k _ _ M.mod.size (M.push _))
theorem WL.box {t : TypeId} {x : Operand} {v : Value} {c : Array Value} (M : Mem F X w0 L R w) (hg : ρ.want ops g = true) (hx : ρ.ev x = v) (hc : v.cells = c)
    (k : ∀ b w', w0.heap.size ≤ b → Mem F X w0 (blk b (.cells c t) :: L) R w' → WL P n ops rest Q (ρ.put d (.pointer (some ⟨b, 0, none⟩))) w') : WL P n ops (⟨d, .box t x, ty, pos, aft, g⟩ :: rest) Q ρ w := by
  subst hc
  exact WL.step hg (Step.box hx) (k _ _ M.mod.size (M.push _))
theorem WL.store {t : TypeId} {x y : Operand} {b o k : Nat} {c c' : Array Value} {e : TypeId} {v : Value} {cs : List Value} (M : Mem F X w0 L R w) (i : Nat) (hi : L[i]? = some (blk b (.cells c e))) (hg : ρ.want ops g = true)
    (ht : Sized P t k) (ha : ρ.ev x = .pointer (some ⟨b, o, none⟩)) (hv : ρ.ev y = v) (hcs : v.cells.toList = cs) (hk : cs.length = k) (hs : o + k ≤ c.size) (hl : Step.Cellish cs) (hc : Step.put c o cs = c')
    (hL : L.set i (blk b (.cells c' e)) = L') (kk : ∀ w', Mem F X w0 L' R w' → WL P n ops rest Q (ρ.put d undef) w') : WL P n ops (⟨d, .store t x y, ty, pos, aft, g⟩ :: rest) Q ρ w := by
  subst hL
  subst hcs
  exact WL.step hg (Step.store ht ha hv (by rw [← hk, Array.length_toList]) (M.blk i hi) hs hl hc) (kk _ (M.setBlk i _ hi))
theorem WL.new {obj : Obj} (gv : Nat → Value) (M : Mem F X w0 L R w) (hg : ρ.want ops g = true) (h : ∀ w, Step P op ty ρ w (gv w.heap.size) (w.alloc obj))
    (k : ∀ b w', w0.heap.size ≤ b → Mem F X w0 (blk b obj :: L) R w' → WL P n ops rest Q (ρ.put d (gv b)) w') : WL P n ops (⟨d, op, ty, pos, aft, g⟩ :: rest) Q ρ w :=
  WL.step hg (h w) (k _ _ M.mod.size (M.push _))
end
section
variable {P : Program} {ops : Array Oper} {ld mk : List Nat} {Q : Env → World → Prop} {i : Nat} {d : Option Nat} {op : Op} {ty : TypeId} {pos : String} {aft : Array Edge} {g : Option (Nat × Bool)}
  {rest : List Nat} {ρ : Env} {F X : Nat → Prop} {w0 : World} {Lp L L' : List Chunk} {Rp R : List (World → Prop)}
theorem TW.pure {v : Value} {S : St} {D : World → Prop} (hi : ops[i]? = some ⟨d, op, ty, pos, aft, g⟩) (hl : i ∉ ld) (hm : i ∉ mk) (hw : ρ.want ops g = true)
    (h : ∀ w, Step P op ty ρ w v w) (k : TW P ops ld mk D Q rest (ρ.put d v) S) : TW P ops ld mk D Q (i :: rest) ρ S := .steady hi hl hm hw (fun w _ => h w) k
theorem TW.read {v : Value} {S : St} (hi : ops[i]? = some ⟨d, op, ty, pos, aft, g⟩) (hl : i ∉ ld) (hm : i ∉ mk) (hw : ρ.want ops g = true)
    (h : ∀ A w, Mem F X w0 (fl A :: Lp) Rp w → Step P op ty ρ w v w) (k : TW P ops ld mk (Dm F X w0 Lp Rp) Q rest (ρ.put d v) S) : TW P ops ld mk (Dm F X w0 Lp Rp) Q (i :: rest) ρ S :=
  .steady hi hl hm hw (fun w ⟨A, M⟩ => h A w M) k
theorem TW.new {obj : Obj} {D : World → Prop} (gv : Nat → Value) (hi : ops[i]? = some ⟨d, op, ty, pos, aft, g⟩) (hl : i ∉ ld) (hm : i ∈ mk) (hw : ρ.want ops g = true)
    (h : ∀ w, Step P op ty ρ w (gv w.heap.size) (w.alloc obj))
    (k : ∀ b, TW P ops ld mk D Q rest (ρ.put d (gv b)) (MemA F X w0 (blk b obj :: L) R)) : TW P ops ld mk D Q (i :: rest) ρ (MemA F X w0 L R) :=
  .maker gv obj hi hl hm hw (fun w _ => h w) fun b _ => (k b).weaken (fun _ _ hs => MemA.of_with hs) fun _ _ _ _ h _ => MemA.to_with h
theorem TW.store {t : TypeId} {x y : Operand} {b o k : Nat} {c c' : Array Value} {e : TypeId} {v : Value} {cs : List Value} (j : Nat) (hj : L[j]? = some (blk b (.cells c e)))
    (hi : ops[i]? = some ⟨d, .store t x y, ty, pos, aft, g⟩) (hl : i ∈ ld) (hw : ρ.want ops g = true) (ht : Sized P t k) (ha : ρ.ev x = .pointer (some ⟨b, o, none⟩)) (hv : ρ.ev y = v) (hcs : v.cells.toList = cs) (hk : cs.length = k) (hs : o + k ≤ c.size)
    (hcl : Step.Cellish cs) (hc : Step.put c o cs = c') (hL' : L.set j (blk b (.cells c' e)) = L') (hLp : Lp.Sublist L') (hRp : ∀ r, r ∈ Rp → r ∈ R)
    (kk : TW P ops ld mk (Dm F X w0 Lp Rp) Q rest (ρ.put d undef) (MemA F X w0 L' R)) (hm : i ∉ mk := by decide) : TW P ops ld mk (Dm F X w0 Lp Rp) Q (i :: rest) ρ (MemA F X w0 L R) := by
  subst hcs
  refine .loud (hm := hm) (fun v A w => v = undef ∧ MemA F X w0 L' R A w) hi hl hw (fun v => (good_mem hLp hRp).and) (fun A w M => ?_) ?_
  · have hb : w.heap[b]? = some (.cells c e) := Mem.blk M (j + 1) (by simpa using hj)
    refine .inl ⟨undef, _, Step.store ht ha hv (by rw [← hk, Array.length_toList]) hb hs hcl hc, ⟨rfl, ?_⟩, fun b' hb' => ?_⟩
    · have := Mem.setBlk M (j + 1) (o := .cells c e) (.cells c' e) (by simpa using hj)
      rw [List.set_cons_succ, hL'] at this
      exact this
    · refine (blkSet_mod w b _).block b' ((Mem.chunk M 0 rfl).lt b' hb') fun e => ?_
      subst e
      exact Mem.disj_ne M (i := 0) (j := j + 1) rfl (d := blk b' (.cells c _)) (by simpa using hj) (by omega) b' hb' rfl
  · rintro v ⟨_, _, rfl, _⟩
    exact kk.weaken (fun _ _ hs => hs.2) fun _ _ _ h1 h2 _ => ⟨h1.1, h2⟩
theorem TW.done {D : World → Prop} (h : ∀ w, Mem F X w0 L R w → Q ρ w) : TW P ops ld mk D Q [] ρ (MemA F X w0 L R) := .nil fun _ _ M => h _ (MemA.stop M)
theorem W.drawn {n id : Nat} {l : List Oper} {Q : Exit → Env → World → Prop} {w : World} (M : Mem F X w0 L R w) (ord ld mk : List Nat) (Lp : List Chunk) (Rp : List (World → Prop)) (hL : Lp.Sublist L) (hR : ∀ r, r ∈ Rp → r ∈ R)
    (hm : P.follows .mixedOrders = true) (hB : anyB n l.toArray ld mk ord = true) (h : TW P l.toArray ld mk (Dm F X w0 Lp Rp) (Q .normal) ord ρ (MemA F X w0 L R)) : W P n (.region id l.toArray true) Q ρ w :=
  W.region_any ord ld mk _ _ hm hB (good_mem hL hR) (MemA.start M) h
end
def Env.overF (l : List (Nat × Value)) (f : Nat → Value) : Nat → Value := fun t => match l with
  | [] => f t
  | p :: l => if t = p.1 then p.2 else Env.overF l f t
def Env.over (l : List (Nat × Value)) (ρ : Env) : Env := ⟨Env.overF l ρ.f, [], none⟩
theorem Env.overF_know : ∀ (l : List (Nat × Value)) (f : Nat → Value), (∀ p, p ∈ l → f p.1 = p.2) → f = Env.overF l f
  | [], f, _ => by funext t; simp [Env.overF]
  | p :: l, f, h => by
    funext t
    have ih := Env.overF_know l f fun q hq => h q (by simp [hq])
    simp only [Env.overF]
    by_cases e : t = p.1
    · rw [if_pos e, e]; exact h p (by simp)
    · rw [if_neg e]; exact congrFun ih t
def Env.has (ρ : Env) : List (Nat × Value) → Prop
  | [] => ρ.ds = [] ∧ ρ.rd = none
  | p :: l => ρ.f p.1 = p.2 ∧ ρ.has l
theorem Env.has.all {l : List (Nat × Value)} {ρ : Env} (h : ρ.has l) : (∀ p, p ∈ l → ρ.f p.1 = p.2) ∧ ρ.ds = [] ∧ ρ.rd = none := by
  induction l with
  | nil => exact ⟨fun p hp => (by cases hp), h⟩
  | cons q l ih =>
    obtain ⟨h1, h2⟩ := ih h.2
    refine ⟨fun p hp => ?_, h2⟩
    rcases List.mem_cons.1 hp with rfl | hp
    · exact h.1
    · exact h1 p hp
theorem Env.has.know : ∀ {l : List (Nat × Value)} {ρ : Env}, ρ.has l → ∃ ρ', ρ = Env.over l ρ' := fun {l ρ} h => ⟨ρ, by
  obtain ⟨h1, h2, h3⟩ := h.all
  have := Env.overF_know l ρ.f h1
  cases ρ
  simp only at h2 h3 this
  subst h2; subst h3
  simp only [Env.over, Env.mk.injEq, and_true]
  exact this⟩
theorem inBlk_hit {id : Nat} {Q : Exit → Env → World → Prop} {ρ : Env} {w : World} (h : Q .normal ρ w) : inBlk id Q (.exit id) ρ w := by simp only [inBlk, if_pos]; exact h
theorem inBlk_miss {id id' : Nat} {Q : Exit → Env → World → Prop} {ρ : Env} {w : World} (hne : id' ≠ id) (h : Q (.exit id') ρ w) : inBlk id Q (.exit id') ρ w := by simp only [inBlk, if_neg hne]; exact h
end Tp
namespace Tp
open Go
section
variable {P : Program} {d : Nat} {xs ys : Array Value}
theorem eqF_nil : ∀ w, (Op.eqFields d xs ys []).run P w = .ok true w := fun w => by simp [Op.eqFields]
theorem eqF_cons {f : Field} {fs : List Field} {x y : Value} {c r : Bool} (hn : f.name ≠ "_") (hx : ∀ w, (part f.type xs f.offset).run P w = .ok x w) (hy : ∀ w, (part f.type ys f.offset).run P w = .ok y w)
    (he : ∀ w, (Op.equalIn d f.type x y).run P w = .ok c w) (hr : ∀ w, (Op.eqFields d xs ys fs).run P w = .ok r w) : ∀ w, (Op.eqFields d xs ys (f :: fs)).run P w = .ok (c && r) w := by
  intro w
  simp only [Op.eqFields, ne_eq, hn, not_false_eq_true, if_true, Sem.run_bind, hx w, hy w, he w, Result.andThen_ok]
  cases c
  · simp
  · simp only [Bool.not_true, Bool.false_eq_true, if_false, Bool.true_and]; exact hr w
theorem eq_struct {t : TypeId} {fs : List Field} {b : Bool} (ht : P.underlying t = some (.struct (P.fieldsOf t))) (hp : P.stoodInHeld t = false) (hf : (P.fieldsOf t).toList = fs)
    (h : ∀ w, (Op.eqFields d xs ys fs).run P w = .ok b w) : ∀ w, (Op.equalIn (d + 1) t (.agg xs) (.agg ys)).run P w = .ok b w := fun w => by
  rw [run_equalIn_struct w d t xs ys ht hp, hf]; exact h w
theorem Step.eqAgg {ρ : Env} {w : World} {ty t t' : TypeId} {x y : Operand} {b : Bool} (hm : P.eqGuardType P.depth t = false) (hx : ρ.ev x = .agg xs) (hy : ρ.ev y = .agg ys) {d : Nat} (hd : d = 10000)
    (h : ∀ w, (Op.equalIn d t (.agg xs) (.agg ys)).run P w = .ok b w) : Step P (.binOp .eql t x y t') ty ρ w (.bool b) w := by
  subst hd
  intro d pos aft g
  left
  simp [execOp, hx, hy, run_eqGuard_agg w .eql t x y xs ys hm, run_eql_struct w t xs ys, h w]
theorem Step.neqAgg {ρ : Env} {w : World} {ty t t' : TypeId} {x y : Operand} {b : Bool} (hm : P.eqGuardType P.depth t = false) (hx : ρ.ev x = .agg xs) (hy : ρ.ev y = .agg ys) {d : Nat} (hd : d = 10000)
    (h : ∀ w, (Op.equalIn d t (.agg xs) (.agg ys)).run P w = .ok b w) : Step P (.binOp .neq t x y t') ty ρ w (.bool (!b)) w := by
  subst hd
  intro d pos aft g
  left
  simp [execOp, hx, hy, run_eqGuard_agg w .neq t x y xs ys hm, run_neq_struct w t xs ys, h w]
end
theorem Step.eqSl {P : Program} {ρ : Env} {w : World} {ty t t' e : TypeId} {x y : Operand} {v : Value} {a : Option Addr} {n cap : Nat} (ht : Und P t (.slice e)) (hx : ρ.ev x = v) (hv : v = .slice a n cap) (hy : ρ.ev y = .slice none 0 0) :
    Step P (.binOp .eql t x y t') ty ρ w (.bool a.isNone) w := by
  intro d pos aft g
  left
  subst hv
  have h1 : (eqGuard .eql t x y (.slice a n cap) (.slice none 0 0)).run P w = .ok () w := by simp [eqGuard]
  have h2 := Lib.run_eql_slice_nil (P := P) w t e a n cap 0 0 ht
  simp only [execOp, hx, hy, Sem.run_bind, h1, Result.andThen_ok, h2, Sem.run_pure]
theorem Step.eqNil {P : Program} {ρ : Env} {w : World} {ty t t' e : TypeId} {x y : Operand} {v : Value} (ht : Und P t (.slice e)) (hx : ρ.ev x = v) (hv : v = .slice none 0 0) (hy : ρ.ev y = .slice none 0 0) : Step P (.binOp .eql t x y t') ty ρ w (.bool true) w :=
  Step.eqSl ht hx hv hy
theorem Step.eqSome {P : Program} {ρ : Env} {w : World} {ty t t' e : TypeId} {x y : Operand} {v : Value} {a : Addr} {n cap : Nat} (ht : Und P t (.slice e)) (hx : ρ.ev x = v) (hv : v = .slice (some a) n cap) (hy : ρ.ev y = .slice none 0 0) : Step P (.binOp .eql t x y t') ty ρ w (.bool false) w :=
  Step.eqSl ht hx hv hy
theorem SlAt.cases {size n : Nat} {v : Value} {cs : List Value} {w : World} (h : SlAt size v n cs w) : (v = .slice none 0 0 ∧ n = 0) ∨ ∃ a cap, v = .slice (some a) n cap := by
  rcases h with ⟨⟨a, h1⟩, h2, _⟩ | ⟨b, o, cap, _, _, _, h, _⟩
  · cases a with
    | none => exact .inl ⟨h1, h2⟩
    | some a => exact .inr ⟨a, 0, by rw [h1, h2]⟩
  · exact .inr ⟨_, cap, h⟩
namespace Mem
variable {F X : Nat → Prop} {w0 w w' : World} {L : List Chunk} {R : List (World → Prop)}
theorem out (M : Mem F X w0 L R w) (i : Nat) {r : World → Prop} (h : R[i]? = some r) : Sh (fun b => F b ∨ w0.heap.size ≤ b) r w := (M.shr i h).mono fun _ hb _ => hb.1
theorem ownBlk (M : Mem F X w0 L R w) (i : Nat) {b n size : Nat} {c : Array Value} {e : TypeId} (h : L[i]? = some (Tp.blk b (.cells c e))) (hs : c.size = n * size) (hn : n ≤ maxLen) :
    Mem F X w0 (L.set i (Tp.own e size (.slice (some ⟨b, 0, none⟩) n n) n c.toList)) R w := by
  have hb := M.blk i h
  refine M.turn i h (Mod.refl _ _) (own_ok ⟨by simpa using hs, .inr ⟨b, n, c, rfl, Nat.zero_le _, hb, Nat.le_refl _, hn, hs, ?_⟩⟩) fun b' hb' => .inl ?_
  · rw [← hs, ← Array.length_toList, List.take_length]
  · simp only [Tp.own, Value.ownBlock, Option.some.injEq] at hb'; exact hb'.symm
theorem freezeN (M : Mem F (fun _ => False) w0 L R w) (i : Nat) {c : Chunk} (hi : L[i]? = some c) : Mem F (fun _ => False) w0 (L.eraseIdx i) (c.inv :: R) w :=
  M.freeze i hi (M.zero hi fun _ => id)
theorem shareOwn (M : Mem F (fun _ => False) w0 L R w) (i : Nat) {e : TypeId} {size n : Nat} {v : Value} {cs : List Value} (hi : L[i]? = some (Tp.own e size v n cs)) : Mem F (fun _ => False) w0 (L.eraseIdx i) (SlAt size v n cs :: R) w := by
  have M1 := M.freezeN i hi
  exact M1.facts fun r hr => by
    rcases List.mem_cons.1 hr with rfl | hr
    · exact (M1.sh _ (List.mem_cons_self ..)).imp fun _ h => own_slAt h
    · exact M1.sh r (List.mem_cons_of_mem _ hr)
theorem shareBlk (M : Mem F (fun _ => False) w0 L R w) (i : Nat) {b n size : Nat} {c : Array Value} {e : TypeId} (hi : L[i]? = some (Tp.blk b (.cells c e))) (hs : c.size = n * size) (hn : n ≤ maxLen) :
    Mem F (fun _ => False) w0 (L.eraseIdx i) (SlAt size (.slice (some ⟨b, 0, none⟩) n n) n c.toList :: R) w := by
  have M1 := M.freezeN i hi
  exact M1.facts fun r hr => by
    rcases List.mem_cons.1 hr with rfl | hr
    · exact (M1.sh _ (List.mem_cons_self ..)).imp fun _ h => SlAt.of_blk h hs hn
    · exact M1.sh r (List.mem_cons_of_mem _ hr)
end Mem
theorem reps_cells {α : Type} {T : Ty α} {F : Nat → Prop} {v : Value} {xs : List α} {w : World} (h : Sh F (RepS T v xs) w) :
    ∃ cs, Sh F (SlAt T.size v xs.length cs) w ∧ Sh F (RepL T cs xs) w := by
  obtain ⟨G, h1, h2, h3⟩ := h
  obtain ⟨cs, hs, hl⟩ := h3 w fun _ _ => rfl
  have same : ∀ w', (∀ b, G b → w'.heap[b]? = w.heap[b]?) → SlAt T.size v xs.length cs w' ∧ RepL T cs xs w' := by
    intro w' hw
    obtain ⟨cs', hs', hl'⟩ := h3 w' hw
    have : cs' = cs := by
      by_cases hx0 : xs.length = 0
      · have e1 := hl.1; have e2 := hl'.1
        rw [hx0, Nat.zero_mul] at e1 e2
        rw [List.eq_nil_of_length_eq_zero e1, List.eq_nil_of_length_eq_zero e2]
      rcases hs with ⟨_, hn, hc⟩ | ⟨b, o, cap, c, e, fz, hv, h5, h6, hb, h7, h8, h9⟩
      · have := hl'.1; rw [hn] at this; simp at this; rw [this, hc]
      · -- the block is one of those that the fact is on
        have hG : G b := by
          apply Classical.byContradiction
          intro hn
          obtain ⟨cs2, hs2, _⟩ := h3 (World.blkSet w b (.map #[] 0)) fun b' hb' => (blkSet_mod w b _).block b' (h2 b' hb') fun e => hn (e ▸ hb')
          rcases hs2 with ⟨_, hn2, _⟩ | ⟨b2, o2, cap2, c2, e2, fz2, hv2, _, _, hb2, _⟩
          · exact absurd hn2 hx0
          · rw [hv] at hv2
            simp only [Value.slice.injEq, Option.some.injEq, Addr.mk.injEq] at hv2
            obtain ⟨⟨rfl, _⟩, _⟩ := hv2
            rw [blkSet_at _ (lt_of_blk hb)] at hb2
            cases hb2
        rcases hs' with ⟨_, hn2, _⟩ | ⟨b2, o2, cap2, c2, e2, fz2, hv2, _, _, hb2, _, k8, k9⟩
        · exact absurd hn2 hx0
        · rw [hv] at hv2
          simp only [Value.slice.injEq, Option.some.injEq, Addr.mk.injEq] at hv2
          obtain ⟨⟨rfl, rfl, _⟩, _, _⟩ := hv2
          rw [hw b hG, hb] at hb2
          simp only [Option.some.injEq, Obj.cells.injEq] at hb2
          obtain ⟨rfl, _, _⟩ := hb2
          apply List.ext_getElem?
          intro j
          rcases Nat.lt_or_ge j (xs.length * T.size) with hj | hj
          · rw [← k9 j hj, ← h9 j hj]
          · rw [List.getElem?_eq_none (by omega), List.getElem?_eq_none (by omega)]
    subst this
    exact ⟨hs', hl'⟩
  exact ⟨cs, ⟨G, h1, h2, fun w' hw => (same w' hw).1⟩, ⟨G, h1, h2, fun w' hw => (same w' hw).2⟩⟩
theorem Mem.openS {α : Type} {T : Ty α} {F X : Nat → Prop} {w0 w : World} {L : List Chunk} {R : List (World → Prop)} {v : Value} {xs : List α} (M : Mem F X w0 L R w) (i : Nat) (h : R[i]? = some (RepS T v xs)) :
    ∃ cs, Mem F X w0 L (SlAt T.size v xs.length cs :: RepL T cs xs :: R) w := by
  obtain ⟨cs, h1, h2⟩ := reps_cells (M.shr i h)
  exact ⟨cs, (M.add h2).add h1⟩
end Tp
namespace Tp
open Go
theorem cel_flatMap {α : Type} {enc : α → List Value} (h : ∀ x, Step.Cellish (enc x)) (xs : List α) : Step.Cellish (xs.flatMap enc) := by
  intro v hv
  obtain ⟨x, _, hx⟩ := List.mem_flatMap.1 hv
  exact h x v hx
theorem Mem.appendF {α : Type} {enc : α → List Value} {P : Program} {F X : Nat → Prop} {w0 w : World} {L : List Chunk} {R : List (World → Prop)} {ρ : Env} {d : Option Nat} {pos : String} {aft : Array Edge} {g : Option (Nat × Bool)} {t ty e : TypeId} {z : Value} {size bytes : Nat} {x y : Operand}
    {v sv : Value} (xs ys : List α) (M : Mem F X w0 L R w) (i : Nat) (ht : Und P t (.slice e)) (he : Elem P e z size bytes) (hzs : z.cells.size = size) (hsz : 0 < size)
    (hx : ρ.ev x = v) (hy : ρ.ev y = sv) (hi : L[i]? = some (Tp.own e size v xs.length (xs.flatMap enc))) (hsrc : SlAt size sv ys.length (ys.flatMap enc) w) (h1 : ∀ x, Step.Cellish (enc x))
    (h63 : xs.length + ys.length ≤ maxLen) (hb : (xs.length + ys.length) * bytes ≤ 140737488355328) :
    Does P ⟨d, .call { callee := .builtin .append, args := #[x, y], argTypes := #[t, t] }, ty, pos, aft, g⟩ ρ w fun v' w' =>
      Mem F X w0 (L.set i (Tp.own e size v' (xs ++ ys).length ((xs ++ ys).flatMap enc))) R w' := by
  refine (M.append i ht he hzs hsz hx hy hi hsrc (cel_flatMap h1 ys).one h63 hb).mono fun v' w' ⟨_, _, M'⟩ => ?_
  rw [List.length_append, List.flatMap_append]
  exact M'
end Tp
namespace Tp
open Go
theorem thn_exit {K : Env → World → Prop} {Q : Exit → Env → World → Prop} {id : Nat} {ρ : Env} {w : World} (h : Q (.exit id) ρ w) : thn K Q (.exit id) ρ w := h
theorem SlAt.le' {size n : Nat} {v : Value} {cs : List Value} {w : World} (h : SlAt size v n cs w) : n ≤ 9223372036854775807 := h.le
theorem RepS.le' {α : Type} {T : Ty α} {v : Value} {xs : List α} {w : World} (h : RepS T v xs w) : xs.length ≤ 9223372036854775807 := h.le
end Tp
namespace Tp
open Go Go.ChangeShapes
def Stay (w w' : World) : Prop := ∀ b, b < w.heap.size → w'.heap[b]? = w.heap[b]?
theorem SlAt.stay {size n : Nat} {v : Value} {cs : List Value} {w w' : World} (h : SlAt size v n cs w) (hs : Stay w w') : SlAt size v n cs w' := by
  rcases h with h | ⟨b, o, cap, c, e, fz, h1, h2, h3, h4, h5⟩
  · exact .inl h
  · exact .inr ⟨b, o, cap, c, e, fz, h1, h2, h3, by rw [hs b (lt_of_blk h4)]; exact h4, h5⟩
def Ty.Stays {α : Type} (T : Ty α) : Prop := ∀ cs x w w', T.rep cs x w → Stay w w' → T.rep cs x w'
theorem RepL.stay {α : Type} {T : Ty α} (hT : T.Stays) {cs : List Value} {xs : List α} {w w' : World} (h : RepL T cs xs w) (hs : Stay w w') : RepL T cs xs w' := ⟨h.1, fun i x hx => hT _ _ _ _ (h.2 i x hx) hs⟩
theorem RepS.stay {α : Type} {T : Ty α} (hT : T.Stays) {v : Value} {xs : List α} {w w' : World} (h : RepS T v xs w) (hs : Stay w w') : RepS T v xs w' := let ⟨cs, h1, h2⟩ := h; ⟨cs, h1.stay hs, h2.stay hT hs⟩
theorem Sh.stay {r : World → Prop} {w : World} (h : ∀ w', Stay w w' → r w') : Sh (fun _ => True) r w := ⟨fun b => b < w.heap.size, fun _ _ => trivial, fun _ h => h, fun w' hw => h w' hw⟩
theorem Old.below {w w' : World} (h : Old w w') : RowKit.Below w.heap.size w w' := ⟨h.os, h.tape, h.output, h.size, fun k hk => h.block k hk id⟩
end Tp
namespace Tp
open Go
def splice (cs : List Value) (o : Nat) (new : List Value) : List Value := cs.take o ++ new ++ cs.drop (o + new.length)
theorem splice_length {cs new : List Value} {o : Nat} (h : o + new.length ≤ cs.length) : (splice cs o new).length = cs.length := by
  simp [splice]; omega
theorem put_toList : ∀ (new : List Value) (c : Array Value) (o : Nat), o + new.length ≤ c.size → (Step.put c o new).toList = splice c.toList o new := by
  intro new
  induction new with
  | nil => intro c o _; simp [Step.put, splice]
  | cons v new ih =>
    intro c o h
    simp only [List.length_cons] at h
    rw [Step.put, ih _ _ (by simp; omega)]
    simp only [splice, Array.toList_setIfInBounds, List.length_cons]
    have hlt : o < c.toList.length := by simp; omega
    have h1 : List.take (o + 1) (c.toList.set o v) = c.toList.take o ++ [v] := by
      rw [List.take_succ_eq_append_getElem (by simpa using hlt), List.getElem_set_self, List.take_set_of_le (Nat.le_refl _)]
    have h2 : List.drop (o + 1 + new.length) (c.toList.set o v) = c.toList.drop (o + (new.length + 1)) := by
      rw [List.drop_set_of_lt (by omega)]
      congr 1; omega
    rw [h1, h2]
    simp
theorem take_splice {cs new : List Value} {o n : Nat} (h : o + new.length ≤ n) (hn : n ≤ cs.length) : (splice cs o new).take n = splice (cs.take n) o new := by
  simp only [splice, List.take_append, List.take_take, List.length_append, List.length_take]
  rw [List.take_of_length_le (l := new) (by omega), List.drop_take]
  congr 1
  · congr 2; omega
  · congr 1; omega
section
variable {P : Program} {n : Nat} {Q : Exit → Env → World → Prop} {ρ : Env} {w w0 : World} {ops : Array Oper} {rest : List Oper} {F X : Nat → Prop} {L L' : List Chunk} {R : List (World → Prop)}
variable {d : Option Nat} {ty : TypeId} {pos : String} {aft : Array Edge} {g : Option (Nat × Bool)}
theorem own_store {e : TypeId} {size : Nat} {v : Value} {m : Nat} {cs : List Value} {new : List Value} {o : Nat} (h : w.ownsRow 0 e size v m cs) (ho : o + new.length ≤ m * size) (hn : 0 < m) :
    ∃ cur, w.heap[sBlk v]? = some (.cells cur e (0, 0)) ∧ sOff v = 0 ∧ o + new.length ≤ cur.size ∧ v.ownBlock = some (sBlk v) ∧
      (World.blkSet w (sBlk v) (.cells (Step.put cur o new) e)).ownsRow 0 e size v m (splice cs o new) := by
  rcases h.2 with ⟨_, rfl⟩ | ⟨g, cap, cur, rfl, h1, h2, h3, h4, h5, h6⟩
  · omega
  · have hms : m * size ≤ cur.size := by rw [h5]; exact Nat.mul_le_mul_right _ h3
    refine ⟨cur, h2, rfl, by omega, rfl, ?_, .inr ⟨g, cap, _, rfl, h1, blkSet_at _ (lt_of_blk h2), h3, h4, by rw [Step.put_size]; exact h5, ?_⟩⟩
    · rw [splice_length (by rw [h.1]; exact ho)]; exact h.1
    · rw [put_toList _ _ _ (by omega), take_splice ho (by simpa using hms), h6]
end
section
variable {α : Type} {enc : α → List Value} {size : Nat}
theorem take_flatMap (he : ∀ x, (enc x).length = size) (xs : List α) (i : Nat) : (xs.flatMap enc).take (i * size) = (xs.take i).flatMap enc := by
  induction xs generalizing i with
  | nil => simp
  | cons y xs ih =>
    cases i with
    | zero => simp
    | succ i =>
      rw [List.flatMap_cons, List.take_succ_cons, List.flatMap_cons, Nat.add_mul, Nat.one_mul, Nat.add_comm (i * size), ← he y, List.take_length_add_append, he y, ih]
theorem splice_flat (he : ∀ x, (enc x).length = size) {xs : List α} {j k : Nat} {x x' : α} {new : List Value} (hx : xs[j]? = some x) (hk : k + new.length ≤ size) (h : splice (enc x) k new = enc x') :
    splice (xs.flatMap enc) (j * size + k) new = (xs.set j x').flatMap enc := by
  obtain ⟨hj, hxe⟩ := List.getElem?_eq_some_iff.1 hx
  have e : xs = xs.take j ++ x :: xs.drop (j + 1) := by
    rw [← hxe, ← List.drop_eq_getElem_cons hj, List.take_append_drop]
  have hlen : (xs.take j).length = j := by simp; omega
  have e2 : xs.set j x' = xs.take j ++ x' :: xs.drop (j + 1) := by
    rw [List.set_eq_take_append_cons_drop, if_pos hj]
  rw [e2]
  conv => lhs; rw [e]
  simp only [List.flatMap_append, List.flatMap_cons]
  have hl : ((xs.take j).flatMap enc).length = j * size := by rw [length_flatMap he, hlen]
  rw [← h]
  simp only [splice]
  rw [← hl, List.take_length_add_append, List.append_assoc, List.append_assoc]
  have hd : ((xs.take j).flatMap enc ++ (enc x ++ (xs.drop (j + 1)).flatMap enc)).drop (((xs.take j).flatMap enc).length + k + new.length) = (enc x ++ (xs.drop (j + 1)).flatMap enc).drop (k + new.length) := by
    rw [Nat.add_assoc, List.drop_append]
    simp
  have hx1 := he x
  rw [hd, List.take_append_of_le_length (by omega), List.drop_append_of_le_length (by omega)]
  simp [List.append_assoc]
end
theorem take_snoc {α : Type} {l : List α} {i : Nat} {x : α} (h : l[i]? = some x) : l.take i ++ [x] = l.take (i + 1) := by
  obtain ⟨h1, h2⟩ := List.getElem?_eq_some_iff.1 h
  rw [List.take_succ_eq_append_getElem h1, h2]
section
variable {α : Type} {T : Ty α} {cs new : List Value} {xs : List α} {x : α} {w : World}
theorem repL_snoc (h : RepL T cs xs w) (hx : T.rep new x w) : RepL T (cs ++ new) (xs ++ [x]) w := by
  have hl := T.len _ _ _ hx
  refine ⟨by rw [List.length_append, h.1, hl, List.length_append, List.length_singleton, Nat.add_mul, Nat.one_mul], fun i y hy => ?_⟩
  rcases Nat.lt_or_ge i xs.length with hi | hi
  · rw [List.getElem?_append_left hi] at hy
    have h2 := h.2 i y hy
    have : (i + 1) * T.size ≤ cs.length := by rw [h.1]; exact Nat.mul_le_mul_right _ hi
    rw [Nat.add_mul, Nat.one_mul] at this
    rw [List.drop_append_of_le_length (by omega), List.take_append_of_le_length (by rw [List.length_drop]; omega)]
    exact h2
  · rw [List.getElem?_append_right hi] at hy
    have : i = xs.length := by
      rcases Nat.lt_or_ge (i - xs.length) 1 with h' | h'
      · omega
      · rw [List.getElem?_eq_none (by simpa using h')] at hy; cases hy
    subst this
    simp at hy
    subst hy
    rw [← h.1, List.drop_left, List.take_of_length_le (by omega)]
    exact hx
theorem repL_set {j : Nat} (h : RepL T cs xs w) (hx : T.rep new x w) (hj : j < xs.length) : RepL T (splice cs (j * T.size) new) (xs.set j x) w := by
  have hl := T.len _ _ _ hx
  have hb : (j + 1) * T.size ≤ cs.length := by rw [h.1]; exact Nat.mul_le_mul_right _ hj
  have hb' := hb
  rw [Nat.add_mul, Nat.one_mul] at hb'
  refine ⟨by rw [splice_length (by omega), List.length_set]; exact h.1, fun i y hy => ?_⟩
  rw [List.getElem?_set] at hy
  have hlen1 : (cs.take (j * T.size)).length = j * T.size := by simp; omega
  by_cases e : j = i
  · subst e
    rw [if_pos rfl, if_pos hj] at hy
    cases hy
    have : splice cs (j * T.size) new = cs.take (j * T.size) ++ (new ++ cs.drop (j * T.size + new.length)) := by simp [splice]
    rw [this, List.drop_left' hlen1, List.take_left' hl]
    exact hx
  · rw [if_neg e] at hy
    have h2 := h.2 i y hy
    have hi : i < xs.length := (List.getElem?_eq_some_iff.1 hy).1
    have hbi : (i + 1) * T.size ≤ cs.length := by rw [h.1]; exact Nat.mul_le_mul_right _ hi
    rw [Nat.add_mul, Nat.one_mul] at hbi
    have : ((splice cs (j * T.size) new).drop (i * T.size)).take T.size = (cs.drop (i * T.size)).take T.size := by
      apply List.ext_getElem?
      intro k
      rw [List.getElem?_take, List.getElem?_take]
      split
      · rename_i hk
        rw [List.getElem?_drop, List.getElem?_drop]
        simp only [splice, List.append_assoc]
        rcases Nat.lt_or_gt_of_ne e with hlt | hlt
        · -- behind it
          have : (j + 1) * T.size ≤ i * T.size := Nat.mul_le_mul_right _ hlt
          rw [Nat.add_mul, Nat.one_mul] at this
          rw [List.getElem?_append_right (by rw [hlen1]; omega), List.getElem?_append_right (by rw [hlen1]; omega), List.getElem?_drop, hlen1, hl]
          congr 1; omega
        · have : (i + 1) * T.size ≤ j * T.size := Nat.mul_le_mul_right _ hlt
          rw [Nat.add_mul, Nat.one_mul] at this
          rw [List.getElem?_append_left (by rw [hlen1]; omega), List.getElem?_take, if_pos (by omega)]
      · rfl
    rw [this]
    exact h2
end
theorem tmod_bounds {a b : Int} (h : 0 < b) : -b < a.tmod b ∧ a.tmod b < b := ⟨Int.lt_tmod_of_pos a h, Int.tmod_lt_of_pos a h⟩
theorem Step.rem {P : Program} {ρ : Env} {w : World} {ty t ty' : TypeId} {x y : Operand} {k : IntKind} {a b : Int} (hx : ρ.ev x = .int k a) (hy : ρ.ev y = .int k b) (hb : b ≠ 0) : Step P (.binOp .rem t x y ty') ty ρ w (.int k (a.tmod b)) w := by
  intro d pos aft g
  left
  simp [execOp, eqGuard, hx, hy, binOp, Op.intDiv, hb]
theorem Step.quo {P : Program} {ρ : Env} {w : World} {ty t ty' : TypeId} {x y : Operand} {k : IntKind} {a b c : Int} (hx : ρ.ev x = .int k a) (hy : ρ.ev y = .int k b) (hb : b ≠ 0) (hc : k.wrap (a.tdiv b) = c) : Step P (.binOp .quo t x y ty') ty ρ w (.int k c) w := by
  intro d pos aft g
  left
  simp [execOp, eqGuard, hx, hy, binOp, Op.intDiv, hb, hc]
namespace Mem
variable {F X : Nat → Prop} {w0 w w' : World} {L : List Chunk} {R : List (World → Prop)}
theorem ext {G : Nat → Prop} (M : Mem F X w0 L R w) (hG : ∀ b, G b → ¬ X b) {r : World → Prop} (h : Sh G r w0) : Sh G r w :=
  h.keep M.mod.size (fun b hb hlt => M.mod.block b hlt (hG b hb)) fun _ hb _ => hb
theorem lose1 {c : Chunk} (M : Mem F X w0 L R w) (i : Nat) (hi : L[i]? = some c) (h : Mod c.foot w w') : Mem F X w0 (L.eraseIdx i) R w' := by
  have hcm : c ∈ L := List.mem_of_getElem? hi
  have hs : (L.eraseIdx i).Sublist L := List.eraseIdx_sublist ..
  have hne : ∀ d, d ∈ L.eraseIdx i → ∀ b, d.foot b → ¬ c.foot b := by
    intro d hd b hb hc
    obtain ⟨j, hj⟩ := List.getElem?_of_mem hd
    rw [List.getElem?_eraseIdx] at hj
    split at hj
    · exact M.disj_ne hj hi (by omega) b hb hc
    · exact M.disj_ne hj hi (by omega) b hb hc
  refine ⟨M.mod.trans h fun b hb hx => (M.in_ c hcm b hx).resolve_right (by omega), fun d hd => ?_, M.disj.sublist hs, fun d hd => M.in_ d (hs.subset hd), fun r hr => ?_⟩
  · exact (M.ok d (hs.subset hd)).keep h.size fun b hb => h.block b ((M.ok d (hs.subset hd)).lt b hb) (hne d hd b hb)
  · exact (M.sh r hr).keep h.size (fun b hb hlt => h.block b hlt (hb.2 c hcm)) fun b hb _ => ⟨hb.1, fun d hd => hb.2 d (hs.subset hd)⟩
end Mem
end Tp
namespace Tp
open Go
section
variable {P : Program} {ops : Array Oper} {ld mk : List Nat} {Q : Env → World → Prop} {i : Nat} {d : Option Nat} {op : Op} {ty : TypeId} {pos : String} {aft : Array Edge} {g : Option (Nat × Bool)}
  {rest : List Nat} {ρ : Env} {F X : Nat → Prop} {w0 : World} {Lp L L' : List Chunk} {Rp R : List (World → Prop)}
end
end Tp
namespace Tp
open Go
def Foots (C : List Chunk) (b : Nat) : Prop := ∃ c, c ∈ C ∧ c.foot b
def Outer (F : Nat → Prop) (w0 : World) (L : List Chunk) (b : Nat) : Prop := (F b ∨ w0.heap.size ≤ b) ∧ avoid L b
def Facts (G : Nat → Prop) (w : World) : List (World → Prop) → Prop
  | [] => True
  | r :: R => Sh G r w ∧ Facts G w R
theorem Facts.all {G : Nat → Prop} {w : World} : ∀ {R : List (World → Prop)}, Facts G w R → ∀ r, r ∈ R → Sh G r w
  | [], _, _, h => by cases h
  | _ :: _, h, r, hr => by
    rcases List.mem_cons.1 hr with rfl | hr
    · exact h.1
    · exact Facts.all h.2 r hr
def Sel (L L' : List Chunk) (is : List Nat) : Prop := is.map (fun i : Nat => L[i]?) = L'.map some
namespace Mem
variable {F X : Nat → Prop} {w0 w w' : World} {L L' C C' D : List Chunk} {R R' : List (World → Prop)}
theorem sel (M : Mem F X w0 L R w) (is : List Nat) (hL : Sel L L' is) (hn : is.Nodup) : Mem F X w0 L' R w := by
  have at_ : ∀ (k : Nat) (c : Chunk), L'[k]? = some c → ∃ j : Nat, is[k]? = some j ∧ L[j]? = some c := by
    intro k c hk
    have : (is.map (fun i : Nat => L[i]?))[k]? = (L'.map some)[k]? := by rw [hL]
    rw [List.getElem?_map, List.getElem?_map, hk] at this
    cases hj : is[k]? with
    | none => rw [hj] at this; cases this
    | some j => rw [hj] at this; simp at this; exact ⟨j, rfl, this⟩
  have mem : ∀ c, c ∈ L' → c ∈ L := fun c hc => by
    obtain ⟨k, hk⟩ := List.getElem?_of_mem hc
    obtain ⟨j, _, h2⟩ := at_ k c hk
    exact List.mem_of_getElem? h2
  refine ⟨M.mod, fun c hc => M.ok c (mem c hc), ?_, fun c hc => M.in_ c (mem c hc), fun r hr => (M.sh r hr).mono fun b hb _ => ⟨hb.1, fun c hc => hb.2 c (mem c hc)⟩⟩
  rw [List.pairwise_iff_getElem]
  intro i j hi hj hij
  obtain ⟨a, ha1, ha2⟩ := at_ i _ (List.getElem?_eq_getElem hi)
  obtain ⟨b, hb1, hb2⟩ := at_ j _ (List.getElem?_eq_getElem hj)
  refine M.disj_ne ha2 hb2 fun e => ?_
  subst e
  obtain ⟨k1, e1⟩ := List.getElem?_eq_some_iff.1 ha1
  obtain ⟨k2, e2⟩ := List.getElem?_eq_some_iff.1 hb1
  exact List.pairwise_iff_getElem.1 hn i j k1 k2 hij (e1.trans e2.symm)
theorem close (M : Mem F X w0 L R w) (is : List Nat) (hL : Sel L L' is) (hn : is.Nodup) (hR : Facts (Outer F w0 L) w R') : Mem F X w0 L' R' w :=
  (M.facts hR.all).sel is hL hn
theorem shr' (M : Mem F X w0 L R w) (i : Nat) {r : World → Prop} (h : R[i]? = some r) : Sh (Outer F w0 L) r w := M.shr i h
theorem enter (M : Mem F X w0 L R w) (is : List Nat) (hL : Sel L (C ++ D) is) (hn : is.Nodup) (hR : Facts (Outer F w0 L) w R') : Mem (Outer F w0 (C ++ D)) (Foots C) w C R' w := by
  have M' := M.sel is hL hn
  refine ⟨Mod.refl _ _, fun c hc => M'.ok c (by simp [hc]), (List.pairwise_append.1 M'.disj).1, fun c hc b hb => .inl ⟨c, hc, hb⟩, fun r hr => (hR.all r hr).mono fun b hb _ => ?_⟩
  have : ∀ c, c ∈ C ++ D → ¬ c.foot b := fun c hc => by
    obtain ⟨k, hk⟩ := List.getElem?_of_mem hc
    have : (is.map (fun i : Nat => L[i]?))[k]? = ((C ++ D).map some)[k]? := by rw [hL]
    rw [List.getElem?_map, List.getElem?_map, hk] at this
    cases hj : is[k]? with
    | none => rw [hj] at this; cases this
    | some j => rw [hj] at this; simp at this; exact hb.2 c (List.mem_of_getElem? this)
  exact ⟨.inl ⟨hb.1, this⟩, fun c hc => this c (by simp [hc])⟩
theorem leave (M : Mem F X w0 L R w) (is : List Nat) (hL : Sel L (C ++ D) is) (hn : is.Nodup) (m : Mem (Outer F w0 (C ++ D)) (Foots C) w C' R' w') : Mem F X w0 (C' ++ D) (R' ++ R) w' := by
  have M' := M.sel is hL hn
  have hdis : ∀ c, c ∈ D → ∀ b, c.foot b → ¬ Foots C b := fun d hd b hb ⟨c, hc, hcb⟩ => (List.pairwise_append.1 M'.disj).2.2 c hc d hd b hcb hb
  have hlt : ∀ c, c ∈ D → ∀ b, c.foot b → b < w.heap.size := fun d hd b hb => (M'.ok d (by simp [hd])).lt b hb
  refine ⟨M'.mod.trans m.mod ?_, ?_, ?_, ?_, ?_⟩
  · rintro b hb ⟨c, hc, hcb⟩
    exact (M'.in_ c (by simp [hc]) b hcb).resolve_right (by omega)
  · intro c hc
    rcases List.mem_append.1 hc with hc | hc
    · exact m.ok c hc
    · exact (M'.ok c (by simp [hc])).keep m.mod.size fun b hb => m.mod.block b (hlt c hc b hb) (hdis c hc b hb)
  · refine List.pairwise_append.2 ⟨m.disj, (List.pairwise_append.1 M'.disj).2.1, fun c hc d hd b hb hb' => ?_⟩
    rcases m.in_ c hc b hb with h | h
    · exact hdis d hd b hb' h
    · have := hlt d hd b hb'; omega
  · intro c hc b hb
    rcases List.mem_append.1 hc with hc | hc
    · rcases m.in_ c hc b hb with ⟨d, hd, hdb⟩ | h
      · exact M'.in_ d (by simp [hd]) b hdb
      · exact .inr (Nat.le_trans M'.mod.size h)
    · exact M'.in_ c (by simp [hc]) b hb
  · intro r hr
    rcases List.mem_append.1 hr with hr | hr
    · refine (m.sh r hr).mono fun b hb _ => ?_
      obtain ⟨h1, h2⟩ := hb
      rcases h1 with h1 | h1
      · refine ⟨h1.1, fun c hc => ?_⟩
        rcases List.mem_append.1 hc with hc | hc
        · exact h2 c hc
        · exact h1.2 c (by simp [hc])
      · refine ⟨.inr (Nat.le_trans M'.mod.size h1), fun c hc => ?_⟩
        rcases List.mem_append.1 hc with hc | hc
        · exact h2 c hc
        · exact fun hf => by have := hlt c hc b hf; omega
    · refine (M'.sh r hr).keep m.mod.size (fun b hb hlt' => m.mod.block b hlt' fun ⟨c, hc, hcb⟩ => hb.2 c (by simp [hc]) hcb) fun b hb hlt' => ⟨hb.1, fun c hc hf => ?_⟩
      rcases List.mem_append.1 hc with hc | hc
      · rcases m.in_ c hc b hf with ⟨d, hd, hdb⟩ | h
        · exact hb.2 d (by simp [hd]) hdb
        · omega
      · exact hb.2 c (by simp [hc]) hf
theorem kept (M : Mem F X w0 L R w) (is : List Nat) (hL : Sel L (C ++ D) is) (hn : is.Nodup) (m : Mem (Outer F w0 (C ++ D)) (Foots C) w C' R' w') : ∀ c, c ∈ D → ∀ b, c.foot b → w'.heap[b]? = w.heap[b]? := by
  have M' := M.sel is hL hn
  intro d hd b hb
  exact m.mod.block b ((M'.ok d (by simp [hd])).lt b hb) fun ⟨c, hc, hcb⟩ => (List.pairwise_append.1 M'.disj).2.2 c hc d hd b hcb hb
theorem enter0 (M : Mem F X w0 L R w) (hR : Facts (Outer F w0 L) w R') : Mem (Outer F w0 L) (fun _ => False) w [] R' w :=
  ⟨Mod.refl _ _, fun _ h => (by cases h), List.Pairwise.nil, fun _ h => (by cases h), fun r hr => (hR.all r hr).mono fun _ hb _ => ⟨.inl hb, fun _ h => (by cases h)⟩⟩
theorem leave0 (M : Mem F X w0 L R w) (m : Mem (Outer F w0 L) (fun _ => False) w C' R' w') : Mem F X w0 (C' ++ L) (R' ++ R) w' := by
  have M' : Mem F X w0 L R w := M
  have hlt : ∀ c, c ∈ L → ∀ b, c.foot b → b < w.heap.size := fun d hd b hb => (M'.ok d hd).lt b hb
  refine ⟨M'.mod.trans m.mod fun _ _ h => h.elim, ?_, ?_, ?_, ?_⟩
  · intro c hc
    rcases List.mem_append.1 hc with hc | hc
    · exact m.ok c hc
    · exact (M'.ok c hc).keep m.mod.size fun b hb => m.mod.block b (hlt c hc b hb) id
  · refine List.pairwise_append.2 ⟨m.disj, M'.disj, fun c hc d hd b hb hb' => ?_⟩
    rcases m.in_ c hc b hb with h | h
    · exact h
    · have := hlt d hd b hb'; omega
  · intro c hc b hb
    rcases List.mem_append.1 hc with hc | hc
    · rcases m.in_ c hc b hb with h | h
      · exact h.elim
      · exact .inr (Nat.le_trans M'.mod.size h)
    · exact M'.in_ c hc b hb
  · intro r hr
    rcases List.mem_append.1 hr with hr | hr
    · refine (m.sh r hr).mono fun b hb _ => ?_
      obtain ⟨h1, h2⟩ := hb
      rcases h1 with h1 | h1
      · refine ⟨h1.1, fun c hc => ?_⟩
        rcases List.mem_append.1 hc with hc | hc
        · exact h2 c hc
        · exact h1.2 c hc
      · refine ⟨.inr (Nat.le_trans M'.mod.size h1), fun c hc => ?_⟩
        rcases List.mem_append.1 hc with hc | hc
        · exact h2 c hc
        · exact fun hf => by have := hlt c hc b hf; omega
    · refine (M'.sh r hr).keep m.mod.size (fun b hb hlt' => m.mod.block b hlt' id) fun b hb hlt' => ⟨hb.1, fun c hc hf => ?_⟩
      rcases List.mem_append.1 hc with hc | hc
      · rcases m.in_ c hc b hf with h | h
        · exact h
        · omega
      · exact hb.2 c hc hf
theorem kept0 (M : Mem F X w0 L R w) (m : Mem (Outer F w0 L) (fun _ => False) w C' R' w') : ∀ c, c ∈ L → ∀ b, c.foot b → w'.heap[b]? = w.heap[b]? :=
  fun d hd b hb => m.mod.block b ((M.ok d hd).lt b hb) id
theorem enterW (M : Mem F X w0 L R w) (is : List Nat) (hL : Sel L (C ++ D) is) (hn : is.Nodup) (hR : Facts (avoid C) w R') : Mem (avoid C) (Foots C) w C R' w := by
  have M' := M.sel is hL hn
  exact ⟨Mod.refl _ _, fun c hc => M'.ok c (by simp [hc]), (List.pairwise_append.1 M'.disj).1, fun c hc b hb => .inl ⟨c, hc, hb⟩, fun r hr => (hR.all r hr).mono fun b hb _ => ⟨.inl hb, hb⟩⟩
theorem leaveW (M : Mem F X w0 L R w) (is : List Nat) (hL : Sel L (C ++ D) is) (hn : is.Nodup) (m : Mem (avoid C) (Foots C) w C' [] w') : Mem F X w0 (C' ++ D) R w' := by
  refine M.leave is hL hn (R' := []) ⟨m.mod, m.ok, m.disj, m.in_, fun _ h => (by cases h)⟩
theorem keptW (M : Mem F X w0 L R w) (is : List Nat) (hL : Sel L (C ++ D) is) (hn : is.Nodup) (m : Mem (avoid C) (Foots C) w C' [] w') : ∀ c, c ∈ D → ∀ b, c.foot b → w'.heap[b]? = w.heap[b]? :=
  M.kept is hL hn (R' := []) ⟨m.mod, m.ok, m.disj, m.in_, fun _ h => (by cases h)⟩
theorem sel_mem {L L' : List Chunk} {is : List Nat} (h : Sel L L' is) : ∀ c, c ∈ L' → c ∈ L := fun c hc => by
  obtain ⟨k, hk⟩ := List.getElem?_of_mem hc
  have : (is.map (fun i : Nat => L[i]?))[k]? = (L'.map some)[k]? := by rw [h]
  rw [List.getElem?_map, List.getElem?_map, hk] at this
  cases hj : is[k]? with
  | none => rw [hj] at this; cases this
  | some j => rw [hj] at this; simp at this; exact List.mem_of_getElem? this
theorem wideR (M : Mem F X w0 L R w) (is : List Nat) (hL : Sel L (C ++ D) is) (i : Nat) {r : World → Prop} (h : R[i]? = some r) : Sh (avoid C) r w :=
  (M.shr i h).mono fun _ hb _ c hc => hb.2 c (sel_mem hL c (by simp [hc]))
theorem wideC (M : Mem F X w0 L R w) (is : List Nat) (hL : Sel L (C ++ D) is) (hn : is.Nodup) (i : Nat) {c : Chunk} (h : D[i]? = some c) : Sh (avoid C) c.inv w := by
  have M' := M.sel is hL hn
  have hc := List.mem_of_getElem? h
  exact Sh.of_chunk (M'.ok c (by simp [hc])) fun b hb d hd hdb => (List.pairwise_append.1 M'.disj).2.2 d hd c hc b hdb hb
end Mem
def Pack {ι : Type} (S : Nat → Prop) (Ls : ι → List Chunk) (p : ι → Prop) : Chunk :=
  ⟨S, fun w => ∃ i, p i ∧ S = Foots (Ls i) ∧ ((Ls i).Pairwise fun c d => ∀ b, c.foot b → ¬ d.foot b) ∧ ∀ c, c ∈ Ls i → c.Ok w⟩
namespace Mem
variable {F X : Nat → Prop} {w0 w w' : World} {L L' C C' D : List Chunk} {R R' : List (World → Prop)} {ι : Type} {S : Nat → Prop} {Ls : ι → List Chunk} {p : ι → Prop}
theorem unpack (M : Mem F X w0 (Pack S Ls p :: L) R w) : ∃ i, p i ∧ S = Foots (Ls i) ∧ Mem F X w0 (Ls i ++ L) R w := by
  obtain ⟨i, h1, h2, h3, h4⟩ := (M.chunk 0 rfl).inv
  have hf : ∀ c, c ∈ Ls i → ∀ b, c.foot b → S b := fun c hc b hb => by rw [h2]; exact ⟨c, hc, hb⟩
  have hp := List.pairwise_cons.1 M.disj
  refine ⟨i, h1, h2, M.mod, fun c hc => ?_, List.pairwise_append.2 ⟨h3, hp.2, fun c hc d hd b hb => hp.1 d hd b (hf c hc b hb)⟩, fun c hc b hb => ?_, fun r hr => (M.sh r hr).mono fun b hb _ => ⟨hb.1, fun c hc hcb => ?_⟩⟩
  · rcases List.mem_append.1 hc with hc | hc
    · exact h4 c hc
    · exact M.ok c (by simp [hc])
  · rcases List.mem_append.1 hc with hc | hc
    · exact M.in_ (Pack S Ls p) (by simp) b (hf c hc b hb)
    · exact M.in_ c (by simp [hc]) b hb
  · rcases List.mem_append.1 hc with hc | hc
    · exact hb.2 (Pack S Ls p) (by simp) (hf c hc b hcb)
    · exact hb.2 c (by simp [hc]) hcb
theorem pack (i : ι) (M : Mem F X w0 (Ls i ++ L) R w) (hp : p i) : Mem F X w0 (Pack (Foots (Ls i)) Ls p :: L) R w := by
  have hpw := List.pairwise_append.1 M.disj
  refine ⟨M.mod, fun c hc => ?_, List.pairwise_cons.2 ⟨fun d hd b ⟨c, hc, hb⟩ => hpw.2.2 c hc d hd b hb, hpw.2.1⟩, fun c hc b hb => ?_, fun r hr => (M.sh r hr).mono fun b hb _ => ⟨hb.1, fun c hc hcb => ?_⟩⟩
  · rcases List.mem_cons.1 hc with rfl | hc
    · have hok : ∀ c, c ∈ Ls i → c.Ok w := fun c hc => M.ok c (by simp [hc])
      refine ⟨fun b ⟨c, hc, hb⟩ => (hok c hc).lt b hb, fun w' hw => ⟨i, hp, rfl, hpw.1, fun c hc => ⟨fun b hb => ?_, fun w'' hw' => (hok c hc).loc w'' fun b hb => (hw' b hb).trans (hw b ⟨c, hc, hb⟩)⟩⟩⟩
      have h1 := hw b ⟨c, hc, hb⟩
      have h2 := (hok c hc).lt b hb
      rw [Array.getElem?_eq_getElem h2] at h1
      exact (Array.getElem?_eq_some_iff.1 h1).1
    · exact M.ok c (by simp [hc])
  · rcases List.mem_cons.1 hc with rfl | hc
    · obtain ⟨c, hc, hb⟩ := hb
      exact M.in_ c (by simp [hc]) b hb
    · exact M.in_ c (by simp [hc]) b hb
  · rcases List.mem_cons.1 hc with rfl | hc
    · obtain ⟨c, hc, hcb⟩ := hcb
      exact hb.2 c (by simp [hc]) hcb
    · exact hb.2 c (by simp [hc]) hcb
theorem take (M : Mem F X w0 (C' ++ L) R w) (c : Chunk) (hf : c.foot = Foots C') (hc : (∀ w', (∀ d, d ∈ C' → d.Ok w') → c.inv w')) : Mem F X w0 (c :: L) R w := by
  have hpw := List.pairwise_append.1 M.disj
  have hok : ∀ c, c ∈ C' → c.Ok w := fun c hc => M.ok c (by simp [hc])
  have hff : ∀ b, c.foot b → Foots C' b := fun b hb => by rw [← hf]; exact hb
  have hfb : ∀ b, Foots C' b → c.foot b := fun b hb => by rw [hf]; exact hb
  refine ⟨M.mod, fun d hd => ?_, List.pairwise_cons.2 ⟨fun d hd b hb => let ⟨c, hc, hb⟩ := hff b hb; hpw.2.2 c hc d hd b hb, hpw.2.1⟩, fun d hd b hb => ?_, fun r hr => (M.sh r hr).mono fun b hb _ => ⟨hb.1, fun d hd hcb => ?_⟩⟩
  · rcases List.mem_cons.1 hd with rfl | hd
    · refine ⟨fun b hb => let ⟨c, hc, hb⟩ := hff b hb; (hok c hc).lt b hb, fun w' hw => hc w' fun e he => ⟨fun b hb => ?_, fun w'' hw' => (hok e he).loc w'' fun b hb => (hw' b hb).trans (hw b (hfb b ⟨e, he, hb⟩))⟩⟩
      have h1 := hw b (hfb b ⟨e, he, hb⟩)
      have h2 := (hok e he).lt b hb
      rw [Array.getElem?_eq_getElem h2] at h1
      exact (Array.getElem?_eq_some_iff.1 h1).1
    · exact M.ok d (by simp [hd])
  · rcases List.mem_cons.1 hd with rfl | hd
    · obtain ⟨c, hc, hb⟩ := hff b hb
      exact M.in_ c (by simp [hc]) b hb
    · exact M.in_ d (by simp [hd]) b hb
  · rcases List.mem_cons.1 hd with rfl | hd
    · obtain ⟨c, hc, hcb⟩ := hff b hcb
      exact hb.2 c (by simp [hc]) hcb
    · exact hb.2 d (by simp [hd]) hcb
end Mem
section
variable {P : Program} {n : Nat} {Q : Exit → Env → World → Prop} {ρ : Env} {w w0 : World} {ops : Array Oper} {rest : List Oper} {F X : Nat → Prop} {L L' : List Chunk} {R : List (World → Prop)}
variable {d : Option Nat} {op : Op} {ty : TypeId} {pos : String} {aft : Array Edge} {g : Option (Nat × Bool)}
theorem WL.callX {f : FuncId} {args : List Value} {post : Value → World → Prop} (hg : ρ.want ops g = true)
    (h : Rets P f args.toArray w post) (hc : CallsF P op ty ρ w f args.toArray) (k : ∀ v w', post v w' → WL P n ops rest Q (ρ.put d v) w') : WL P n ops (⟨d, op, ty, pos, aft, g⟩ :: rest) Q ρ w :=
  WL.call hg hc h k
end
section
variable {P : Program} {ops : Array Oper} {ld mk : List Nat} {Q : Env → World → Prop} {i : Nat} {d : Option Nat} {op : Op} {ty : TypeId} {pos : String} {aft : Array Edge} {g : Option (Nat × Bool)}
  {rest : List Nat} {ρ : Env} {F X : Nat → Prop} {w0 : World} {Lp L : List Chunk} {Rp R : List (World → Prop)}
theorem TW.callX {f : FuncId} {args : List Value} {ι : Type} (p : ι → Value → Prop) (L' : ι → List Chunk) (R' : ι → List (World → Prop)) (hi : ops[i]? = some ⟨d, op, ty, pos, aft, g⟩) (hl : i ∈ ld) (hw : ρ.want ops g = true)
    (hL : ∀ x, Lp.Sublist (L' x)) (hR : ∀ x r, r ∈ Rp → r ∈ R' x)
    (h : ∀ A w, Mem F X w0 (fl A :: L) R w → Rets P f args.toArray w fun v w' => ∃ x, p x v ∧ Mem F X w0 (fl A :: L' x) (R' x) w' ∧ ∀ b, A b → w'.heap[b]? = w.heap[b]?)
    (hc : ∀ w, CallsF P op ty ρ w f args.toArray)
    (k : ∀ x v, p x v → (∃ A w, Mem F X w0 (fl A :: L' x) (R' x) w) → TW P ops ld mk (Dm F X w0 Lp Rp) Q rest (ρ.put d v) (MemA F X w0 (L' x) (R' x))) (hm : i ∉ mk := by decide) : TW P ops ld mk (Dm F X w0 Lp Rp) Q (i :: rest) ρ (MemA F X w0 L R) :=
  .loudx (hm := hm) (fun x v A w => p x v ∧ MemA F X w0 (L' x) (R' x) A w) hi hl hw (fun x v => (good_mem (hL x) (hR x)).and)
    (fun A w M => Does.call' (hc w) ((h A w M).mono fun v w' ⟨x, h1, h2, h3⟩ => ⟨⟨x, h1, h2⟩, h3⟩))
    fun x v ⟨A, w, hp, hM⟩ => (k x v hp ⟨A, w, hM⟩).weaken (fun _ _ hs => hs.2) fun _ _ _ h1 h2 _ => ⟨h1.1, h2⟩
end
end Tp
namespace Tp
open Go
namespace Mem
variable {F X : Nat → Prop} {w0 w w' : World} {L L' C C' D : List Chunk} {R R' : List (World → Prop)}
theorem enterW0 (M : Mem F X w0 L R w) (hR : Facts (fun _ => True) w R') : Mem (fun _ => True) (fun _ => False) w [] R' w :=
  ⟨Mod.refl _ _, fun _ h => (by cases h), List.Pairwise.nil, fun _ h => (by cases h), fun r hr => (hR.all r hr).mono fun _ hb _ => ⟨.inl hb, fun _ h => (by cases h)⟩⟩
theorem leaveW0 (M : Mem F X w0 L R w) (m : Mem (fun _ => True) (fun _ => False) w C' [] w') : Mem F X w0 (C' ++ L) R w' :=
  M.leave0 (R' := []) ⟨m.mod, m.ok, m.disj, m.in_, fun _ h => (by cases h)⟩
theorem keptW0 (M : Mem F X w0 L R w) (m : Mem (fun _ => True) (fun _ => False) w C' [] w') : ∀ c, c ∈ L → ∀ b, c.foot b → w'.heap[b]? = w.heap[b]? :=
  fun d hd b hb => m.mod.block b ((M.ok d hd).lt b hb) id
theorem wideR0 (M : Mem F X w0 L R w) (i : Nat) {r : World → Prop} (h : R[i]? = some r) : Sh (fun _ => True) r w := (M.shr i h).mono fun _ _ _ => trivial
theorem wideC0 (M : Mem F X w0 L R w) (i : Nat) {c : Chunk} (h : L[i]? = some c) : Sh (fun _ => True) c.inv w := Sh.of_chunk (M.chunk i h) fun _ _ => trivial
end Mem
end Tp
namespace Tp
open Go
section
variable {P : Program} {ops : Array Oper} {ld mk : List Nat} {Q : Env → World → Prop} {i : Nat} {d : Option Nat} {op : Op} {ty : TypeId} {pos : String} {aft : Array Edge} {g : Option (Nat × Bool)}
  {rest : List Nat} {ρ : Env} {F X : Nat → Prop} {w0 : World} {Lp L : List Chunk} {Rp R : List (World → Prop)}
end
end Tp
namespace Tp
open Go Go.ChangeShapes Go.RowKit
variable {H : Type} {enc : TypeId × Value → H} {P : Program}
theorem trodAll_stays (hl : laidOutB P = true) {W W' : World} {sp' : Nat → Bool} : ∀ {ts : List TypeId} {vs : List Value} {ds : List (DataW H)} {ps : List MemPlace}, (∀ t, t ∈ ts → P.readableRec t = true ∧ t < P.types.size) →
    DataW.TrodAll enc P W 0 (fun _ => true) true ts vs ds ps → (∀ p, p ∈ ps → W.sameAt W' p) → (∀ p, p ∈ ps → sp' p.block = true) → DataW.TrodAll enc P W' 0 sp' true ts vs ds ps
  | [], [], [], _, _, h, _, _ => h
  | t :: ts, v :: vs, d :: ds, ps, ht, ⟨p, q, h1, h2, e⟩, hs, hp => by
    subst e
    exact ⟨p, q, WideElems.Trod_stays hl (ht t (by simp)).1 (ht t (by simp)).2 h1 (fun x hx => hs x (by simp [hx])) (fun x hx => hp x (by simp [hx])),
      trodAll_stays hl (fun t ht' => ht t (by simp [ht'])) h2 (fun x hx => hs x (by simp [hx])) (fun x hx => hp x (by simp [hx])), rfl⟩
theorem post_old {f : Func} {s : ChangeSpec} {apart fresh handsOn again : Bool} {W W' : World} {args : Array Value} {ds gs : List (DataW H)} {before : List MemPlace} {tb : TypeId}
    (hl : laidOutB P = true) (ht : ∀ t, t ∈ f.params.toList → P.readableRec t = true ∧ t < P.types.size) (hb : P.underlying tb = some .bool) (hr : f.resultTypes = #[tb])
    (hsv : s.vars = []) (hsr : (s.fn H (ds ++ gs)).results = [.lit (.bool true)]) (hsa : (s.fn H (ds ++ gs)).args = ds) (hsg : (s.fn H (ds ++ gs)).vars = [])
    (hW : DataW.Whole enc P f.params.toList s.vars apart W args.toList ds gs before) (ho : Old W W') : s.post enc P f apart fresh handsOn again W args (.bool true) W' := by
  have hlt : ∀ p, p ∈ before → p.block < W.heap.size := fun p hp => by simpa using hW.lt p hp
  have hbel := ho.below
  have hW0 := hW
  obtain ⟨p, q, hA, hV, rfl, hz, hn⟩ := hW0
  rw [hsv] at hV
  obtain ⟨rfl, rfl⟩ := trodVars_none hV
  have again_ : ∀ sp : Nat → Bool, (∀ x, x ∈ p → sp x.block = true) → DataW.TrodAll enc P W' 0 sp true f.params.toList args.toList ds p := fun sp hsp =>
    trodAll_stays hl ht hA (fun x hx => hbel.same (hlt x (by simp [hx]))) hsp
  have res : ∀ (b : Nat) (sp : Nat → Bool) (hd : Bool), DataW.TrodAll enc P W' b sp hd f.resultTypes.toList ((Value.bool true).resultList f.resultTypes.size) [.lit (.bool true)] [] := fun b sp hd => by
    rw [hr]
    exact ⟨[], [], ⟨1, by simp [DataW.trod, Value.cells, hb]⟩, rfl, rfl⟩
  refine ⟨ds, [], p ++ [], [], p, [], hW, ?_, ?_, ?_, hbel.frame _, fun _ => ⟨?_, ?_⟩⟩
  · rw [hsr]; exact res _ _ _
  · rw [hsa]; exact again_ _ fun x hx => by simpa using hlt x (by simp [hx])
  · rw [hsv, hsg]; rfl
  · exact ok_one hr rfl (okWide_bool_mk hb true)
  · refine ⟨[.lit (.bool true)] ++ ds, [], (([] : List MemPlace) ++ p) ++ [], ⟨[] ++ p, [], trodAll_append (again_ _ fun _ _ => rfl) (res _ _ _), ?_, rfl, ?_, ?_⟩, ?_⟩
    · rw [hsv]; rfl
    · intro b off hp
      have hp' : MemPlace.cell b off ∈ p := by simpa using hp
      rw [hbel.frozen (p := ⟨b, off, none⟩) (show b < W.heap.size from hlt (.cell b off) (by simpa using hp'))]
      exact hz b off (by simpa using hp')
    · intro ha; simpa using hn ha
    · intro x hx _; simpa using hx
theorem Mem.law {W : World} (R : List (World → Prop)) (h : Facts (fun _ => True) W R) : Mem (fun _ => True) (fun _ => False) W [] R W := Mem.start W h.all
end Tp
namespace Tp
open Go Go.ChangeShapes
variable {H : Type} {enc : TypeId × Value → H} {P : Program} {w : World} {base : Nat} {spare : Nat → Bool} {held : Bool}
theorem Facts.cons {G : Nat → Prop} {w : World} {r : World → Prop} {R : List (World → Prop)} (h : Sh G r w) (t : Facts G w R) : Facts G w (r :: R) := ⟨h, t⟩
end Tp
namespace Tp
open Go
structure Handle where
  at_ : Int
  turn : Int
deriving DecidableEq, Inhabited
structure Nd where
  leaf : Bool
  keys : List ByteArray
  kids : List Handle
  vals : List Int
deriving Inhabited
structure RPlace where
  used : Bool
  turn : Int
  node : Nd
deriving Inhabited
def intE (n : Int) : List Value := [.int .i64 n]
theorem intE_len (n : Int) : (intE n).length = 1 := rfl
def strE (s : ByteArray) : List Value := [.string s]
theorem strE_len (s : ByteArray) : (strE s).length = 1 := rfl
def handleE (h : Handle) : List Value := [.int .i64 h.at_, .int .i64 h.turn]
theorem handleE_len (h : Handle) : (handleE h).length = 2 := rfl
def NodeC (kv dv vv : Value) (n : Nd) (w : World) : Prop :=
  SlAt 1 kv n.keys.length (n.keys.flatMap strE) w ∧ SlAt 2 dv n.kids.length (n.kids.flatMap handleE) w ∧ SlAt 1 vv n.vals.length (n.vals.flatMap intE) w
theorem intE_cel (n : Int) : Step.Cellish (intE n) := cel_cons rfl cel_nil
theorem strE_cel (n : ByteArray) : Step.Cellish (strE n) := cel_cons rfl cel_nil
theorem handleE_cel (h : Handle) : Step.Cellish (handleE h) := cel_cons rfl (cel_cons rfl cel_nil)
section
variable {α : Type}
theorem findIx_step {xs : List α} {i : Nat} {x y : α} (hy : xs[i]? = some y) (h : y ≠ x) (hi : ∀ j, j < i → xs[j]? ≠ some x) : ∀ j, j < i + 1 → xs[j]? ≠ some x := fun j hj => by
  rcases Nat.lt_or_ge j i with h' | h'
  · exact hi j h'
  · have : j = i := by omega
    rw [this, hy]
    exact fun e => h (Option.some.inj e)
variable [DecidableEq α]
def findIx (xs : List α) (x : α) : Int := if x ∈ xs then (xs.idxOf x : Int) else -1
theorem findIx_hit {xs : List α} {i : Nat} {x y : α} (hy : xs[i]? = some y) (h : y = x) (hi : ∀ j, j < i → xs[j]? ≠ some x) : (i : Int) = findIx xs x := by
  subst h
  have hm : y ∈ xs := List.mem_of_getElem? hy
  unfold findIx
  rw [if_pos hm]
  have h1 : xs.idxOf y ≤ i := by
    apply Nat.le_of_not_lt
    intro hlt
    obtain ⟨h2, h3⟩ := List.getElem?_eq_some_iff.1 hy
    have := List.not_of_lt_findIdx (p := (· == y)) (xs := xs) (i := i) hlt
    simp [h3] at this
  have h2 : ¬ xs.idxOf y < i := fun hlt => hi _ hlt (by
    have hl := List.idxOf_lt_length_iff.2 hm
    rw [List.getElem?_eq_getElem hl, List.getElem_idxOf hl])
  omega
theorem findIx_none {xs : List α} {i : Nat} {x : α} (hi : ∀ j, j < i → xs[j]? ≠ some x) (h : xs.length ≤ i) : (-1 : Int) = findIx xs x := by
  unfold findIx
  rw [if_neg]
  intro hm
  obtain ⟨j, hj⟩ := List.getElem?_of_mem hm
  exact hi j (by have := (List.getElem?_eq_some_iff.1 hj).1; omega) hj
theorem findIx_mem (xs : List α) (x : α) : decide (findIx xs x ≥ 0) = decide (x ∈ xs) := by
  unfold findIx
  split
  · rename_i h; simp [h]
  · rename_i h; simp [h]
end
theorem handle_ext {a b : Handle} (h1 : a.at_ = b.at_) (h2 : a.turn = b.turn) : a = b := by cases a; cases b; simp_all
def rhas (l : List RPlace) (h : Handle) : Bool :=
  decide (h.at_ ≥ 0) && match l[h.at_.toNat]? with
    | some p => p.used && p.turn == h.turn
    | none => false
end Tp
namespace Tp
theorem toList_inj {x y : ByteArray} (h : x.toList = y.toList) : x = y := by
  rw [Go.ByteArray.toList_eq, Go.ByteArray.toList_eq] at h
  obtain ⟨⟨x⟩⟩ := x
  obtain ⟨⟨y⟩⟩ := y
  simp_all
end Tp
namespace Tp
theorem handle_eq2 {x y : Handle} (h : (((x.at_ : Int) == (y.at_ : Int)) && (((x.turn : Int) == (y.turn : Int)) && true)) = true) : x = y := by
  simp at h; exact handle_ext h.1 h.2
theorem handle_ne2 {x y : Handle} (h : (((x.at_ : Int) == (y.at_ : Int)) && (((x.turn : Int) == (y.turn : Int)) && true)) = false) : x ≠ y := by
  rintro rfl; simp at h
end Tp
namespace Tp
open Go
def mapC (k : IntKind) (b : Nat) (kvs : List (Int × Value)) : Chunk :=
  ⟨(· = b), fun w => ∃ es ck, w.heap[b]? = some (.map es ck) ∧ es.toList.map (fun e => (e.key, e.val)) = kvs.map fun p => (Value.int k p.1, p.2)⟩
theorem mapC_ok {k : IntKind} {b : Nat} {kvs : List (Int × Value)} {w : World} {es : Array MapEntry} {ck : Nat} (h : w.heap[b]? = some (.map es ck)) (he : es.toList.map (fun e => (e.key, e.val)) = kvs.map fun p => (Value.int k p.1, p.2)) : (mapC k b kvs).Ok w :=
  ⟨fun _ e => by rw [show _ = b from e]; exact lt_of_blk h, fun _ h' => ⟨es, ck, (h' b rfl).trans h, he⟩⟩
def mfind (a : Int) : List (Int × Value) → Nat → Option (Nat × Value)
  | [], _ => none
  | p :: l, i => if a == p.1 then some (i, p.2) else mfind a l (i + 1)
theorem findNow_int {k : IntKind} {a : Int} : ∀ {l : List MapEntry} {kvs : List (Int × Value)} (i : Nat), l.map (fun e => (e.key, e.val)) = kvs.map (fun p => (Value.int k p.1, p.2)) →
    Instr.findNow (.int k) (.int k a) l i = some (mfind a kvs i)
  | [], [], _, _ => rfl
  | [], _ :: _, _, h => by simp at h
  | _ :: _, [], _, h => by simp at h
  | e :: l, p :: kvs, i, h => by
    simp only [List.map_cons, List.cons.injEq, Prod.mk.injEq] at h
    obtain ⟨⟨h1, h2⟩, h3⟩ := h
    simp only [Instr.findNow, h1, Instr.sameNow, if_pos, mfind, h2]
    by_cases e : a = p.1
    · simp [e]
    · have e' : (a == p.1) = false := by simp [e]
      simp [e', findNow_int (i + 1) h3]
theorem mfind_some {a : Int} {v : Value} {j : Nat} : ∀ {kvs : List (Int × Value)} {i : Nat}, mfind a kvs i = some (j, v) → i ≤ j ∧ kvs[j - i]? = some (a, v)
  | [], _, h => by cases h
  | p :: l, i, h => by
    simp only [mfind] at h
    split at h
    · rename_i e
      simp at h
      obtain ⟨rfl, rfl⟩ := h
      simp at e
      simp [e]
    · obtain ⟨h1, h2⟩ := mfind_some h
      refine ⟨by omega, ?_⟩
      rw [show j - i = (j - (i + 1)) + 1 by omega, List.getElem?_cons_succ]
      exact h2
theorem mfind_none {a : Int} : ∀ {kvs : List (Int × Value)} {i : Nat}, mfind a kvs i = none ↔ ∀ p, p ∈ kvs → p.1 ≠ a
  | [], _ => by simp [mfind]
  | p :: l, i => by
    simp only [mfind]
    by_cases e : a = p.1
    · simp [e]
    · simp only [beq_iff_eq, e, if_false, List.mem_cons, forall_eq_or_imp]
      rw [mfind_none (kvs := l)]
      exact ⟨fun h => ⟨fun h' => e h'.symm, h⟩, fun h => h.2⟩
def mset (a : Int) (v : Value) (kvs : List (Int × Value)) : List (Int × Value) :=
  match mfind a kvs 0 with
  | some (i, _) => kvs.set i (a, v)
  | none => kvs ++ [(a, v)]
def mdel (a : Int) (kvs : List (Int × Value)) : List (Int × Value) :=
  match mfind a kvs 0 with
  | some (i, _) => kvs.eraseIdx i
  | none => kvs
structure MapT (P : Program) (t kt et : TypeId) (k : IntKind) (z : Value) : Prop where
  und : Und P t (.map kt et)
  key : Und P kt (.int k)
  zero : ∀ w, (zeroValue et).run P w = .ok z w
section
variable {P : Program} {ρ : Env} {F X : Nat → Prop} {w w0 : World} {L : List Chunk} {R : List (World → Prop)} {ty t kt et : TypeId} {k : IntKind} {z : Value} {b : Nat} {kvs : List (Int × Value)} {x ix y : Operand} {a : Int}
theorem Step.lookup {es : Array MapEntry} {ck : Nat} (ht : MapT P t kt et k z) (hx : ρ.ev x = .map (some b)) (hi : ρ.ev ix = .int k a) (hb : w.heap[b]? = some (.map es ck)) (he : es.toList.map (fun e => (e.key, e.val)) = kvs.map fun p => (Value.int k p.1, p.2)) :
    Step P (.lookup t x ix true) ty ρ w (.tuple #[((mfind a kvs 0).map (·.2)).getD z, .bool (mfind a kvs 0).isSome]) w := by
  intro d pos aft g
  left
  have h1 := MapKept.run_findKey (w := w) ht.key (findNow_int (a := a) 0 he)
  have h2 := MapKept.run_checkKey (w := w) (k := .int k a) ht.key (by simp [MapKept.IsKey]) es.isEmpty 9999
  simp only [execOp, Instr.lookup, hx, hi, Sem.run_bind, ht.und.run, Result.andThen_ok, MapKept.run_getObj_map hb, Sem.run_pure, h1, h2]
  cases hm : mfind a kvs 0 with
  | none => simp [ht.zero w]
  | some p => simp
theorem Mem.lookup (M : Mem F X w0 L R w) (i : Nat) (hL : L[i]? = some (mapC k b kvs)) (ht : MapT P t kt et k z) (hx : ρ.ev x = .map (some b)) (hi : ρ.ev ix = .int k a) :
    Step P (.lookup t x ix true) ty ρ w (.tuple #[((mfind a kvs 0).map (·.2)).getD z, .bool (mfind a kvs 0).isSome]) w := by
  obtain ⟨es, ck, h1, h2⟩ := (M.chunk i hL).inv
  exact Step.lookup ht hx hi h1 h2
theorem eraseIdx_map' {α β : Type} (f : α → β) : ∀ (l : List α) (i : Nat), (l.eraseIdx i).map f = (l.map f).eraseIdx i
  | [], _ => rfl
  | _ :: _, 0 => rfl
  | x :: l, i + 1 => by simp [eraseIdx_map' f l i]
theorem pairs_set {l : List MapEntry} {kvs : List (Int × Value)} (h : l.map (fun e => (e.key, e.val)) = kvs.map fun p => (Value.int k p.1, p.2)) (i : Nat) {a : Int} {v : Value} {e : MapEntry} (he : (e.key, e.val) = (Value.int k a, v)) :
    (l.set i e).map (fun e => (e.key, e.val)) = (kvs.set i (a, v)).map fun p => (Value.int k p.1, p.2) := by
  rw [List.map_set, List.map_set, h, he]
theorem Mem.mapSet {v : Value} (M : Mem F X w0 L R w) (i : Nat) (hL : L[i]? = some (mapC k b kvs)) (ht : MapT P t kt et k z) (hx : ρ.ev x = .map (some b)) (hi : ρ.ev ix = .int k a) (hy : ρ.ev y = v) :
    ∃ w', Step P (.mapUpdate t x ix y) ty ρ w undef w' ∧ Mem F X w0 (L.set i (mapC k b (mset a v kvs))) R w' ∧ Mod (mapC k b kvs).foot w w' := by
  obtain ⟨es, ck, h1, h2⟩ := (M.chunk i hL).inv
  have h3 := MapKept.run_findKey (w := w) ht.key (findNow_int (a := a) 0 h2)
  have h4 := MapKept.run_checkKey (w := w) (k := .int k a) ht.key (by simp [MapKept.IsKey]) false 9999
  have lt := lt_of_blk h1
  cases hm : mfind a kvs 0 with
  | none =>
    refine ⟨World.blkSet w b (.map (es.push ⟨.int k a, v, ck⟩) (ck + 1)), ?_, ?_, blkSet_mod w b _⟩
    · intro d pos aft g
      right
      simp [execOp, Instr.mapUpdate, hx, hi, hy, ht.und.run, MapKept.run_getObj_map h1, h3, h4, hm, MapKept.run_setObj_map _ h1, World.blkSet]
    · refine M.turn i hL (blkSet_mod w b _) (mapC_ok (blkSet_at _ lt) ?_) fun _ h => .inl h
      simp only [mset, hm, Array.toList_push, List.map_append, List.map_cons, List.map_nil, h2]
  | some p =>
    obtain ⟨j, u⟩ := p
    obtain ⟨_, h5⟩ := mfind_some hm
    rw [Nat.sub_zero] at h5
    have h6 : (es.toList.map (fun e => (e.key, e.val)))[j]? = some (Value.int k a, u) := by rw [h2, List.getElem?_map, h5]; rfl
    obtain ⟨e, he, hke⟩ : ∃ e, es[j]? = some e ∧ (e.key, e.val) = (Value.int k a, u) := by
      rw [List.getElem?_map] at h6
      cases he : es.toList[j]? with
      | none => rw [he] at h6; cases h6
      | some e => rw [he] at h6; exact ⟨e, by simpa using he, by simpa using h6⟩
    refine ⟨World.blkSet w b (.map (es.modify j fun e => { e with key := .int k a, val := v }) ck), ?_, ?_, blkSet_mod w b _⟩
    · intro d pos aft g
      right
      simp at hke
      have hk : (Instr.keyThatStays (Value.int k a) (Value.int k a)).run P w = .ok (Value.int k a) w := by simp [Instr.keyThatStays, Instr.sameBits]
      simp [execOp, Instr.mapUpdate, hx, hi, hy, ht.und.run, MapKept.run_getObj_map h1, h3, h4, hm, he, hke.1, hk, MapKept.run_setObj_map _ h1, World.blkSet]
    · refine M.turn i hL (blkSet_mod w b _) (mapC_ok (blkSet_at _ lt) ?_) fun _ h => .inl h
      simp only [mset, hm]
      rw [← pairs_set (k := k) h2 j (e := { e with key := .int k a, val := v }) (a := a) (v := v) rfl]
      congr 1
      apply List.ext_getElem?
      intro n
      rw [Array.getElem?_toList, Array.getElem?_modify, List.getElem?_set]
      by_cases hn : j = n
      · subst hn
        have := (Array.getElem?_eq_some_iff.1 he).1
        have hbe : es[j] = e := (Array.getElem?_eq_some_iff.1 he).2
        simp [this, hbe]
      · simp [hn]
theorem Mem.mapDel {ts : TypeId} (M : Mem F X w0 L R w) (i : Nat) (hL : L[i]? = some (mapC k b kvs)) (ht : MapT P t kt et k z) (hx : ρ.ev x = .map (some b)) (hi : ρ.ev ix = .int k a) :
    ∃ w', Step P (.call { callee := .builtin .delete, args := #[x, ix], argTypes := #[t, ts] }) ty ρ w undef w' ∧ Mem F X w0 (L.set i (mapC k b (mdel a kvs))) R w' ∧ Mod (mapC k b kvs).foot w w' := by
  obtain ⟨es, ck, h1, h2⟩ := (M.chunk i hL).inv
  have h3 := MapKept.run_findKey (w := w) ht.key (findNow_int (a := a) 0 h2)
  have h4 := MapKept.run_checkKey (w := w) (k := .int k a) ht.key (by simp [MapKept.IsKey]) es.isEmpty 9999
  have lt := lt_of_blk h1
  cases hm : mfind a kvs 0 with
  | none =>
    refine ⟨World.blkSet w b (.map es ck), ?_, ?_, blkSet_mod w b _⟩
    · intro d pos aft g
      left
      simp [execOp, resolve, invoke, builtin, Builtin.delete_, hx, hi, ht.und.run, MapKept.run_getObj_map h1, h3, h4, hm, MapKept.run_setObj_map _ h1, World.blkSet, undef]
    · refine M.turn i hL (blkSet_mod w b _) (mapC_ok (blkSet_at _ lt) ?_) fun _ h => .inl h
      simp only [mdel, hm, h2]
  | some p =>
    obtain ⟨j, u⟩ := p
    obtain ⟨_, h5⟩ := mfind_some hm
    rw [Nat.sub_zero] at h5
    have hj : j < es.size := by
      have h6 := congrArg List.length h2
      simp only [List.length_map, Array.length_toList] at h6
      have := (List.getElem?_eq_some_iff.1 h5).1
      omega
    refine ⟨World.blkSet w b (.map (es.eraseIdxIfInBounds j) ck), ?_, ?_, blkSet_mod w b _⟩
    · intro d pos aft g
      left
      simp [execOp, resolve, invoke, builtin, Builtin.delete_, hx, hi, ht.und.run, MapKept.run_getObj_map h1, h3, h4, hm, MapKept.run_setObj_map _ h1, World.blkSet, undef]
    · refine M.turn i hL (blkSet_mod w b _) (mapC_ok (blkSet_at _ lt) ?_) fun _ h => .inl h
      simp only [mdel, hm]
      unfold Array.eraseIdxIfInBounds
      rw [dif_pos hj, Array.toList_eraseIdx, eraseIdx_map', h2, ← eraseIdx_map']
theorem Step.makeMap : Step P (.makeMap t none) ty ρ w (.map (some w.heap.size)) (w.alloc (.map #[] 0)) := by
  intro d pos aft g
  left
  simp [execOp, Instr.makeMap, newObj, Sem.run]
theorem Mem.mapNew (M : Mem F X w0 L R w) (i : Nat) (hL : L[i]? = some (Tp.blk b (.map #[] 0))) : Mem F X w0 (L.set i (mapC k b [])) R w := by
  have hb := M.blk i hL
  exact M.turn i hL (Mod.refl _ _) (mapC_ok hb (by simp)) fun _ h => .inl h
theorem Step.mapNil {t' : TypeId} (ht : MapT P t kt et k z) (hx : ρ.ev x = .map (some b)) (hy : ρ.ev y = .map none) : Step P (.binOp .eql t x y t') ty ρ w (.bool false) w := by
  intro d pos aft g
  left
  have h1 : (eqGuard .eql t x y (.map (some b)) (.map none)).run P w = .ok () w := by simp [eqGuard]
  have h2 := run_eql_map_nil (P := P) w t kt et (some b) ht.und
  simp only [execOp, hx, hy, Sem.run_bind, h1, Result.andThen_ok, h2, Sem.run_pure]
  rfl
end
theorem WL.act {P : Program} {n : Nat} {Q : Exit → Env → World → Prop} {ρ : Env} {w : World} {ops : Array Oper} {rest : List Oper} {d : Option Nat} {op : Op} {ty : TypeId} {pos : String} {aft : Array Edge} {g : Option (Nat × Bool)} {v : Value} {p : World → Prop}
    (hg : ρ.want ops g = true) (h : ∃ w', Step P op ty ρ w v w' ∧ p w') (k : ∀ w', p w' → WL P n ops rest Q (ρ.put d v) w') : WL P n ops (⟨d, op, ty, pos, aft, g⟩ :: rest) Q ρ w :=
  let ⟨_, h1, h2⟩ := h; WL.step hg h1 (k _ h2)
section
variable {P : Program} {ops : Array Oper} {ld mk : List Nat} {Q : Env → World → Prop} {i : Nat} {d : Option Nat} {op : Op} {ty : TypeId} {pos : String} {aft : Array Edge} {g : Option (Nat × Bool)}
  {rest : List Nat} {ρ : Env} {F X : Nat → Prop} {w0 : World} {Lp L : List Chunk} {Rp R : List (World → Prop)}
theorem TW.act {v : Value} {c c' : Chunk} (j : Nat) (hj : L[j]? = some c) (hi : ops[i]? = some ⟨d, op, ty, pos, aft, g⟩) (hl : i ∈ ld) (hw : ρ.want ops g = true)
    (hL : Lp.Sublist (L.set j c')) (hR : ∀ r, r ∈ Rp → r ∈ R)
    (h : ∀ A w, Mem F X w0 (fl A :: L) R w → ∃ w', Step P op ty ρ w v w' ∧ Mem F X w0 ((fl A :: L).set (j + 1) c') R w' ∧ Mod c.foot w w')
    (k : TW P ops ld mk (Dm F X w0 Lp Rp) Q rest (ρ.put d v) (MemA F X w0 (L.set j c') R)) (hm : i ∉ mk := by decide) : TW P ops ld mk (Dm F X w0 Lp Rp) Q (i :: rest) ρ (MemA F X w0 L R) := by
  refine .loud (hm := hm) (fun u A w => u = v ∧ MemA F X w0 (L.set j c') R A w) hi hl hw (fun _ => (good_mem hL hR).and) (fun A w M => ?_) ?_
  · obtain ⟨w', h1, h2, h3⟩ := h A w M
    refine .inl ⟨v, w', h1, ⟨rfl, ?_⟩, fun b hb => ?_⟩
    · rwa [List.set_cons_succ] at h2
    · exact h3.block b ((Mem.chunk M 0 rfl).lt b hb) (Mem.disj_ne M (i := 0) (j := j + 1) rfl (by simpa using hj) (by omega) b hb)
  · rintro u ⟨A, w, rfl, hM⟩
    exact k.weaken (fun _ _ hs => hs.2) fun _ _ _ h1 h2 _ => ⟨h1.1, h2⟩
end
end Tp
namespace Tp
open Go
section
variable {size i n : Nat} {pre post cells new : List Value} {v : Value} {w : World}
theorem splice_open (hp : pre.length = i * size) {k : Nat} (hk : k + new.length ≤ cells.length) :
    splice (pre ++ (cells ++ post)) (i * size + k) new = pre ++ (splice cells k new ++ post) := by
  simp only [splice]
  rw [← hp, List.take_length_add_append, List.take_append_of_le_length (by omega)]
  have : (pre ++ (cells ++ post)).drop (pre.length + k + new.length) = cells.drop (k + new.length) ++ post := by
    rw [Nat.add_assoc, ← List.drop_drop, List.drop_left, List.drop_append_of_le_length (by omega)]
  rw [this]
  simp [List.append_assoc]
theorem ec_open (h : SlAt size v n (pre ++ (cells ++ post)) w) (hp : pre.length = i * size) (hc : cells.length = size) (hi : i < n) : EC v size i cells w := by
  obtain ⟨cap, hv⟩ := h.base (by omega)
  refine ⟨⟨_, cap, hi, hv⟩, fun k hk => ?_⟩
  rw [Nat.add_assoc, h.cell _ (mul_add_lt hi hk), ← hp, List.getElem?_append_right (by omega), Nat.add_sub_cancel_left, List.getElem?_append_left (by omega)]
theorem row_open {α : Type} {T : Ty α} {cs : List Value} {xs : List α} {x : α} (h : RepL T cs xs w) (hx : xs[i]? = some x) :
    ∃ pre post, cs = pre ++ ((cs.drop (i * T.size)).take T.size ++ post) ∧ pre.length = i * T.size ∧ T.rep ((cs.drop (i * T.size)).take T.size) x w := by
  have hi : i < xs.length := (List.getElem?_eq_some_iff.1 hx).1
  have hb : (i + 1) * T.size ≤ cs.length := by rw [h.1]; exact Nat.mul_le_mul_right _ hi
  rw [Nat.add_mul, Nat.one_mul] at hb
  refine ⟨cs.take (i * T.size), (cs.drop (i * T.size)).drop T.size, ?_, by simp; omega, h.2 i x hx⟩
  rw [List.take_append_drop, List.take_append_drop]
theorem row_close {α : Type} {T : Ty α} {xs : List α} {x : α} (h : RepL T (pre ++ (cells ++ post)) xs w) (hp : pre.length = i * T.size) (hc : cells.length = T.size) (hx : T.rep new x w) (hi : i < xs.length) :
    RepL T (pre ++ (new ++ post)) (xs.set i x) w := by
  have hn := T.len _ _ _ hx
  have := repL_set h hx hi
  rw [show i * T.size = i * T.size + 0 by omega, splice_open hp (by omega)] at this
  have e : splice cells 0 new = new := by simp [splice, hn, ← hc]
  rwa [e] at this
end
theorem flat_open {α : Type} {enc : α → List Value} {size : Nat} (he : ∀ x, (enc x).length = size) {xs : List α} {i : Nat} {x : α} (hx : xs[i]? = some x) :
    ∃ pre post, xs.flatMap enc = pre ++ (enc x ++ post) ∧ pre.length = i * size ∧ ∀ x', pre ++ (enc x' ++ post) = (xs.set i x').flatMap enc := by
  obtain ⟨hi, hxe⟩ := List.getElem?_eq_some_iff.1 hx
  have e : xs = xs.take i ++ x :: xs.drop (i + 1) := by
    rw [← hxe, ← List.drop_eq_getElem_cons hi, List.take_append_drop]
  refine ⟨(xs.take i).flatMap enc, (xs.drop (i + 1)).flatMap enc, ?_, ?_, fun x' => ?_⟩
  · conv => lhs; rw [e]
    simp
  · rw [length_flatMap he, List.length_take, Nat.min_eq_left (by omega)]
  · rw [List.set_eq_take_append_cons_drop, if_pos hi]
    simp
namespace Mem
variable {F X : Nat → Prop} {w0 w w' : World} {L : List Chunk} {R : List (World → Prop)} {P : Program} {ρ : Env}
theorem storeRow {t e ty : TypeId} {x y : Operand} {size j k m : Nat} {v u : Value} {cs new : List Value} (M : Mem F X w0 L R w) (i : Nat) (hi : L[i]? = some (Tp.own e size v m cs))
    (ht : Sized P t new.length) (ha : ρ.ev x = .pointer (some ⟨sBlk v, sOff v + j * size + k, none⟩)) (hv : ρ.ev y = u) (hnew : u.cells.toList = new) (hl : Step.Cellish new) (hj : j < m) (hk : k + new.length ≤ size) :
    ∃ w', Step P (.store t x y) ty ρ w undef w' ∧ Mem F X w0 (L.set i (Tp.own e size v m (splice cs (j * size + k) new))) R w' ∧ Mod (Tp.own e size v m cs).foot w w' := by
  subst hnew
  have hbound : j * size + k + u.cells.toList.length ≤ m * size := by
    have : (j + 1) * size ≤ m * size := Nat.mul_le_mul_right _ hj
    rw [Nat.add_mul, Nat.one_mul] at this
    omega
  obtain ⟨cur, h1, h2, h3, h4, h5⟩ := own_store (new := u.cells.toList) (o := j * size + k) (M.chunk i hi).inv hbound (by omega)
  have ha' : ρ.ev x = .pointer (some ⟨sBlk v, j * size + k, none⟩) := by rw [ha, h2]; simp
  have hm : Mod (Tp.own e size v m cs).foot w (World.blkSet w (sBlk v) (.cells (Step.put cur (j * size + k) u.cells.toList) e)) := (blkSet_mod w (sBlk v) _).mono fun b _ hb => by
    show v.ownBlock = some b
    rw [h4, show b = sBlk v from hb]
  exact ⟨_, Step.store ht ha' hv (by simp) h1 (by simpa using h3) hl rfl, M.turn i hi hm (own_ok h5) fun b hb => .inl hb, hm⟩
theorem storeAt {t e ty : TypeId} {x y : Operand} {size j k m : Nat} {v u : Value} {pre post cells cells' new : List Value} (M : Mem F X w0 L R w) (i : Nat) (hi : L[i]? = some (Tp.own e size v m (pre ++ (cells ++ post))))
    (hp : pre.length = j * size) (ht : Sized P t new.length) (ha : ρ.ev x = .pointer (some ⟨sBlk v, sOff v + j * size + k, none⟩)) (hv : ρ.ev y = u) (hnew : u.cells.toList = new) (hl : Step.Cellish new) (hj : j < m) (hk : k + new.length ≤ size)
    (hc : cells.length = size) (hs : splice cells k new = cells') :
    ∃ w', Step P (.store t x y) ty ρ w undef w' ∧ Mem F X w0 (L.set i (Tp.own e size v m (pre ++ (cells' ++ post)))) R w' ∧ Mod (Tp.own e size v m (pre ++ (cells ++ post))).foot w w' := by
  have := M.storeRow (ty := ty) i hi ht ha hv hnew hl hj hk
  rwa [splice_open hp (by omega), hs] at this
theorem rechunk (M : Mem F X w0 L R w) (i : Nat) {c c' : Chunk} (hi : L[i]? = some c) (h : c = c') : Mem F X w0 (L.set i c') R w := by
  subst h
  have : L.set i c = L := by
    apply List.ext_getElem?
    intro j
    rw [List.getElem?_set]
    split
    · rename_i e; subst e; split
      · exact hi.symm
      · rename_i h; rw [List.getElem?_eq_none (by omega)]
    · rfl
  rwa [this]
end Mem
end Tp
namespace Tp
open Go
theorem ec_row {size i n : Nat} {v : Value} {cs cells : List Value} {w : World} (h : SlAt size v n cs w) (hc : (cs.drop (i * size)).take size = cells) (hi : i < n) : EC v size i cells w := by
  obtain ⟨cap, hv⟩ := h.base (by omega)
  refine ⟨⟨_, cap, hi, hv⟩, fun k hk => ?_⟩
  rw [Nat.add_assoc, h.cell _ (mul_add_lt hi hk), ← hc, List.getElem?_take, if_pos hk, List.getElem?_drop]
end Tp
namespace Tp
open Go
def vTake (i : Nat) : Value → Value
  | .slice a _ cap => .slice a i cap
  | v => v
theorem slat_take {α : Type} {enc : α → List Value} {size : Nat} (he : ∀ x, (enc x).length = size) {v : Value} {xs : List α} {i : Nat} {w : World} (h : SlAt size v xs.length (xs.flatMap enc) w) (hi : i ≤ xs.length) :
    SlAt size (vTake i v) (xs.take i).length ((xs.take i).flatMap enc) w := by
  have hl : (xs.take i).length = i := by simp; omega
  rw [hl]
  rcases h with ⟨⟨a, rfl⟩, hn, hc⟩ | ⟨b, o, cap, c, e, fz, rfl, h1, h2, h3, h4, h5, h6⟩
  · have : i = 0 := by omega
    subst this
    exact .inl ⟨⟨a, rfl⟩, rfl, by simp⟩
  · refine .inr ⟨b, o, cap, c, e, fz, rfl, by omega, h2, h3, h4, by rw [length_flatMap he, hl], fun j hj => ?_⟩
    have : j < xs.length * size := Nat.lt_of_lt_of_le hj (Nat.mul_le_mul_right _ hi)
    rw [h6 j this, ← take_flatMap he, List.getElem?_take, if_pos hj]
end Tp
namespace Tp
open Go
def place5 (cs : List Value) (p : RPlace) (w : World) : Prop :=
  ∃ kv dv vv, cs = [.bool p.node.leaf, kv, dv, vv, .int .i64 p.turn] ∧ NodeC kv dv vv p.node w
def PlaceT : Ty RPlace := ⟨5, place5, fun _ _ _ ⟨_, _, _, h, _⟩ => by rw [h]; rfl⟩
def nodesC (S : Nat → Prop) (cs : List Value) (l : List RPlace) : Chunk := ⟨S, fun w => RepL PlaceT cs l w⟩
def setC (b : Nat) (ks : List Int) : Chunk := mapC .i64 b (ks.map fun k => (k, .agg #[]))
def FreeOk (ks : List Int) (l : List RPlace) : Prop := ks.Nodup ∧ ∀ k, k ∈ ks ↔ ∃ i : Nat, k = (i : Int) ∧ ∃ p, l[i]? = some p ∧ p.used = false
structure ArI where
  pv : Value
  fb : Nat
  cs : List Value
  ks : List Int
  N : Nat → Prop
abbrev arenaL (t e : TypeId) (ab : Nat) (l : List RPlace) (i : ArI) : List Chunk :=
  [blk ab (.cells #[i.pv, .map (some i.fb)] t), own e 5 i.pv l.length i.cs, setC i.fb i.ks, nodesC i.N i.cs l]
def arenaC (t e : TypeId) (S : Nat → Prop) (ab : Nat) (l : List RPlace) : Chunk := Pack S (arenaL t e ab l) fun i => FreeOk i.ks l
def isFree (l : List RPlace) (a : Int) : Bool := decide (a ≥ 0) && match l[a.toNat]? with
  | some p => !p.used
  | none => false
theorem set_find {ks : List Int} {a : Int} : (mfind a (ks.map fun k => (k, Value.agg #[])) 0).isSome = decide (a ∈ ks) := by
  have h := mfind_none (a := a) (kvs := ks.map fun k => (k, Value.agg #[])) (i := 0)
  cases hm : mfind a (ks.map fun k => (k, Value.agg #[])) 0 with
  | none =>
    have := h.1 hm
    simp at this
    have : a ∉ ks := fun hm => this a hm rfl
    simp [this]
  | some p =>
    have : ¬ (∀ p, p ∈ (ks.map fun k => (k, Value.agg #[])) → p.1 ≠ a) := fun h' => by rw [h.2 h'] at hm; cases hm
    simp at this
    simp [this]
theorem set_val {ks : List Int} {a : Int} : ((mfind a (ks.map fun k => (k, Value.agg #[])) 0).map (·.2)).getD (.agg #[]) = .agg #[] := by
  cases hm : mfind a (ks.map fun k => (k, Value.agg #[])) 0 with
  | none => rfl
  | some p =>
    obtain ⟨j, v⟩ := p
    have := (mfind_some hm).2
    rw [List.getElem?_map] at this
    cases hk : ks[j - 0]? with
    | none => rw [hk] at this; cases this
    | some k => rw [hk] at this; simp at this; simp [this.2]
theorem free_iff {ks : List Int} {l : List RPlace} (h : FreeOk ks l) (a : Int) : decide (a ∈ ks) = isFree l a := by
  have := h.2 a
  unfold isFree
  rw [Bool.eq_iff_iff]
  simp only [decide_eq_true_eq, Bool.and_eq_true]
  rw [this]
  constructor
  · rintro ⟨i, rfl, p, hp, hu⟩
    refine ⟨by omega, ?_⟩
    rw [Int.toNat_natCast, hp]; simp [hu]
  · rintro ⟨h1, h2⟩
    cases hp : l[a.toNat]? with
    | none => rw [hp] at h2; cases h2
    | some p => rw [hp] at h2; simp at h2; exact ⟨a.toNat, by omega, p, hp, h2⟩
def sadd (a : Int) (ks : List Int) : List Int := if a ∈ ks then ks else ks ++ [a]
theorem set_mset (a : Int) (ks : List Int) : mset a (.agg #[]) (ks.map fun k => (k, Value.agg #[])) = (sadd a ks).map fun k => (k, Value.agg #[]) := by
  unfold mset sadd
  have h := set_find (ks := ks) (a := a)
  cases hm : mfind a (ks.map fun k => (k, Value.agg #[])) 0 with
  | none => rw [hm] at h; simp at h; simp [h]
  | some p =>
    obtain ⟨j, v⟩ := p
    rw [hm] at h; simp at h
    rw [if_pos h]
    have hj := (mfind_some hm).2
    simp only [Nat.sub_zero] at hj
    show (ks.map fun k => (k, Value.agg #[])).set j (a, .agg #[]) = ks.map fun k => (k, Value.agg #[])
    apply List.ext_getElem?
    intro n
    rw [List.getElem?_set]
    by_cases e : j = n
    · subst e
      have hlt := (List.getElem?_eq_some_iff.1 hj).1
      have : v = .agg #[] := by rw [List.getElem?_map] at hj; cases hk : ks[j]? with | none => rw [hk] at hj; cases hj | some k => rw [hk] at hj; simp at hj; exact hj.2.symm
      rw [if_pos rfl, if_pos hlt, hj, this]
    · rw [if_neg e]
theorem erase_nodup : ∀ {ks : List Int} (_ : ks.Nodup) {j : Nat} (h : j < ks.length), ks.erase ks[j] = ks.eraseIdx j
  | k :: ks, _, 0, _ => by simp
  | k :: ks, hn, j + 1, h => by
    have h' : j < ks.length := by simpa using h
    have hne : k ≠ ks[j] := (List.pairwise_cons.1 hn).1 _ (List.getElem_mem h')
    rw [List.getElem_cons_succ, List.eraseIdx_cons_succ, List.erase_cons_tail (by simpa using hne), erase_nodup (List.pairwise_cons.1 hn).2 h']
theorem set_mdel (a : Int) {ks : List Int} (hn : ks.Nodup) : mdel a (ks.map fun k => (k, Value.agg #[])) = (ks.erase a).map fun k => (k, Value.agg #[]) := by
  unfold mdel
  have h := set_find (ks := ks) (a := a)
  cases hm : mfind a (ks.map fun k => (k, Value.agg #[])) 0 with
  | none => rw [hm] at h; simp at h; simp [List.erase_of_not_mem h]
  | some p =>
    obtain ⟨j, v⟩ := p
    have hj := (mfind_some hm).2
    simp only [Nat.sub_zero] at hj
    have hk : ks[j]? = some a := by rw [List.getElem?_map] at hj; cases hk : ks[j]? with | none => rw [hk] at hj; cases hj | some k => rw [hk] at hj; simp at hj; rw [hj.1]
    show (ks.map fun k => (k, Value.agg #[])).eraseIdx j = _
    rw [← eraseIdx_map']
    congr 1
    obtain ⟨hlt, he⟩ := List.getElem?_eq_some_iff.1 hk
    rw [← he]; exact (erase_nodup hn hlt).symm
section
variable {P : Program} {ρ : Env} {F X : Nat → Prop} {w w0 : World} {L : List Chunk} {R : List (World → Prop)} {ty t kt et ts : TypeId} {b : Nat} {ks : List Int} {x ix y : Operand} {a : Int} {l : List RPlace}
theorem Mem.setLook (M : Mem F X w0 L R w) (i : Nat) (hL : L[i]? = some (setC b ks)) (hK : FreeOk ks l) (ht : MapT P t kt et .i64 (.agg #[])) (hx : ρ.ev x = .map (some b)) (hi : ρ.ev ix = .int .i64 a) :
    Step P (.lookup t x ix true) ty ρ w (.tuple #[.agg #[], .bool (isFree l a)]) w := by
  have := Mem.lookup (ty := ty) M i hL ht hx hi
  rwa [set_val, set_find, free_iff hK] at this
theorem Mem.setAdd (M : Mem F X w0 L R w) (i : Nat) (hL : L[i]? = some (setC b ks)) (ht : MapT P t kt et .i64 (.agg #[])) (hx : ρ.ev x = .map (some b)) (hi : ρ.ev ix = .int .i64 a) (hy : ρ.ev y = .agg #[]) :
    ∃ w', Step P (.mapUpdate t x ix y) ty ρ w undef w' ∧ Mem F X w0 (L.set i (setC b (sadd a ks))) R w' ∧ Mod (setC b ks).foot w w' := by
  have := Mem.mapSet (ty := ty) M i hL ht hx hi hy
  rwa [set_mset] at this
theorem Mem.setDel (M : Mem F X w0 L R w) (i : Nat) (hL : L[i]? = some (setC b ks)) (hn : ks.Nodup) (ht : MapT P t kt et .i64 (.agg #[])) (hx : ρ.ev x = .map (some b)) (hi : ρ.ev ix = .int .i64 a) :
    ∃ w', Step P (.call { callee := .builtin .delete, args := #[x, ix], argTypes := #[t, ts] }) ty ρ w undef w' ∧ Mem F X w0 (L.set i (setC b (ks.erase a))) R w' ∧ Mod (setC b ks).foot w w' := by
  have := Mem.mapDel (ty := ty) (ts := ts) M i hL ht hx hi
  rwa [set_mdel a hn] at this
theorem Mem.setNew (M : Mem F X w0 L R w) (i : Nat) (hL : L[i]? = some (Tp.blk b (.map #[] 0))) : Mem F X w0 (L.set i (setC b [])) R w := M.mapNew i hL
end
def usedN (l : List RPlace) : Nat := l.countP (·.used)
end Tp
namespace Tp
open Go
section
variable {cs pre post cells : List Value} {l : List RPlace} {i : Nat} {p p' : RPlace} {w : World} {kv dv vv : Value}
theorem place_cells (h : RepL PlaceT cs l w) (hp : l[i]? = some p) : ∃ kv dv vv, IsSl kv ∧ IsSl dv ∧ IsSl vv ∧ (cs.drop (i * 5)).take 5 = [.bool p.node.leaf, kv, dv, vv, .int .i64 p.turn] := by
  obtain ⟨kv, dv, vv, hc, h1, h2, h3⟩ := h.2 i p hp
  exact ⟨kv, dv, vv, h1.isSl, h2.isSl, h3.isSl, hc⟩
theorem place_node (h : RepL PlaceT cs l w) (hp : l[i]? = some p) (hc : (cs.drop (i * 5)).take 5 = [.bool p.node.leaf, kv, dv, vv, .int .i64 p.turn]) : NodeC kv dv vv p.node w := by
  obtain ⟨kv', dv', vv', hc', h1⟩ := h.2 i p hp
  have : (cs.drop (i * 5)).take 5 = [.bool p.node.leaf, kv', dv', vv', .int .i64 p.turn] := hc'
  rw [hc] at this
  simp only [List.cons.injEq, true_and, and_true] at this
  obtain ⟨rfl, rfl, rfl⟩ := this
  exact h1
theorem place_open (h : RepL PlaceT cs l w) (hp : l[i]? = some p) : ∃ pre post kv dv vv, IsSl kv ∧ IsSl dv ∧ IsSl vv ∧ cs = pre ++ ([.bool p.node.leaf, kv, dv, vv, .int .i64 p.turn] ++ post) ∧ pre.length = i * 5 := by
  obtain ⟨pre, post, h1, h2, kv, dv, vv, hc, h3, h4, h5⟩ := row_open h hp
  rw [show ((cs.drop (i * PlaceT.size)).take PlaceT.size) = [.bool p.node.leaf, kv, dv, vv, .int .i64 p.turn] from hc] at h1
  exact ⟨pre, post, kv, dv, vv, h3.isSl, h4.isSl, h5.isSl, h1, h2⟩
end
section
variable {F X : Nat → Prop} {w w0 : World} {L : List Chunk} {R : List (World → Prop)} {N : Nat → Prop} {cs pre post cells : List Value} {l : List RPlace} {i : Nat} {p : RPlace} {n : Nd} {kv dv vv : Value} {es eh ei : TypeId} {u : Bool} {t : Int}
theorem nodeC_of_own (h1 : w.ownsRow 0 es 1 kv n.keys.length (n.keys.flatMap strE)) (h2 : w.ownsRow 0 eh 2 dv n.kids.length (n.kids.flatMap handleE)) (h3 : w.ownsRow 0 ei 1 vv n.vals.length (n.vals.flatMap intE)) : NodeC kv dv vv n w :=
  ⟨own_slAt h1, own_slAt h2, own_slAt h3⟩
theorem Mem.nodesPut (M : Mem F X w0 (nodesC N (pre ++ (cells ++ post)) l :: Tp.own es 1 kv n.keys.length (n.keys.flatMap strE) :: Tp.own eh 2 dv n.kids.length (n.kids.flatMap handleE) :: Tp.own ei 1 vv n.vals.length (n.vals.flatMap intE) :: L) R w)
    (hp : pre.length = i * 5) (hc : cells.length = 5) (hi : i < l.length) :
    ∃ N', Mem F X w0 (nodesC N' (pre ++ ([.bool n.leaf, kv, dv, vv, .int .i64 t] ++ post)) (l.set i ⟨u, t, n⟩) :: L) R w := by
  refine ⟨Foots [nodesC N (pre ++ (cells ++ post)) l, Tp.own es 1 kv n.keys.length (n.keys.flatMap strE), Tp.own eh 2 dv n.kids.length (n.kids.flatMap handleE), Tp.own ei 1 vv n.vals.length (n.vals.flatMap intE)], ?_⟩
  refine Mem.take (C' := [_, _, _, _]) M _ rfl fun w' hok => ?_
  have h0 := (hok _ (List.mem_cons_self ..)).inv
  have h1 := (hok _ (List.mem_cons_of_mem _ (List.mem_cons_self ..))).inv
  have h2 := (hok _ (List.mem_cons_of_mem _ (List.mem_cons_of_mem _ (List.mem_cons_self ..)))).inv
  have h3 := (hok _ (List.mem_cons_of_mem _ (List.mem_cons_of_mem _ (List.mem_cons_of_mem _ (List.mem_cons_self ..))))).inv
  exact row_close h0 hp hc ⟨kv, dv, vv, rfl, nodeC_of_own h1 h2 h3⟩ hi
theorem Mem.nodesAdd (M : Mem F X w0 (nodesC N cs l :: Tp.own es 1 kv n.keys.length (n.keys.flatMap strE) :: Tp.own eh 2 dv n.kids.length (n.kids.flatMap handleE) :: Tp.own ei 1 vv n.vals.length (n.vals.flatMap intE) :: L) R w) :
    ∃ N', Mem F X w0 (nodesC N' (cs ++ ([.bool n.leaf, kv, dv, vv, .int .i64 t] ++ [])) (l ++ [⟨u, t, n⟩]) :: L) R w := by
  refine ⟨Foots [nodesC N cs l, Tp.own es 1 kv n.keys.length (n.keys.flatMap strE), Tp.own eh 2 dv n.kids.length (n.kids.flatMap handleE), Tp.own ei 1 vv n.vals.length (n.vals.flatMap intE)], ?_⟩
  refine Mem.take (C' := [_, _, _, _]) M _ rfl fun w' hok => ?_
  have h0 := (hok _ (List.mem_cons_self ..)).inv
  have h1 := (hok _ (List.mem_cons_of_mem _ (List.mem_cons_self ..))).inv
  have h2 := (hok _ (List.mem_cons_of_mem _ (List.mem_cons_of_mem _ (List.mem_cons_self ..)))).inv
  have h3 := (hok _ (List.mem_cons_of_mem _ (List.mem_cons_of_mem _ (List.mem_cons_of_mem _ (List.mem_cons_self ..))))).inv
  rw [List.append_nil]
  exact repL_snoc (T := PlaceT) h0 ⟨kv, dv, vv, rfl, nodeC_of_own h1 h2 h3⟩
theorem Mem.nodesClear (M : Mem F X w0 (nodesC N (pre ++ (cells ++ post)) l :: L) R w) (hp : pre.length = i * 5) (hc : cells.length = 5) (hi : i < l.length) :
    Mem F X w0 (nodesC N (pre ++ ([.bool false, .slice none 0 0, .slice none 0 0, .slice none 0 0, .int .i64 t] ++ post)) (l.set i ⟨u, t, ⟨false, [], [], []⟩⟩) :: L) R w := by
  refine Mem.take (C' := [_]) M _ ?_ fun w' hok => ?_
  · funext b; simp [Foots, nodesC]
  · exact row_close (hok _ (List.mem_cons_self ..)).inv hp hc ⟨_, _, _, rfl, SlAt.nil 1 _, SlAt.nil 2 _, SlAt.nil 1 _⟩ hi
end
end Tp
