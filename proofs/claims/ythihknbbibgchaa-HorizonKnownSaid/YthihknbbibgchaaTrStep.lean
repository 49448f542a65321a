/- Operations, one rule a kind. -/
import Derived.Test.YthihknbbibgchaaTrMem
namespace Tp
open Go

/-- One operation, carried out: its value, and the world behind it. -/
def Step (P : Program) (op : Op) (ty : TypeId) (ρ : Env) (w : World) (v : Value) (w' : World) : Prop :=
  ∀ d pos aft g, (execOp ρ.ev ⟨d, op, ty, pos, aft, g⟩).run P w = .ok (.value v) w' ∨ ((execOp ρ.ev ⟨d, op, ty, pos, aft, g⟩).run P w = .ok .skip w' ∧ v = undef)

def Env.want (ρ : Env) (ops : Array Oper) : Option (Nat × Bool) → Bool
  | none => true
  | some (j, b) =>
    match (ops[j]?).bind (·.dst) with
    | some d => (match ρ.f d with | .bool c => c == b | _ => false)
    | none => false

theorem EnvOf.yielded {n : Nat} {ρ : Env} {a : Act} (h : EnvOf n ρ a) (ops : Array Oper) (o : Oper) : Region.wanted o (yielded ops a.tmps) = ρ.want ops o.guard := by
  unfold Region.wanted Env.want
  cases hg : o.guard with
  | none => rfl
  | some p =>
    obtain ⟨j, b⟩ := p
    simp only [Go.yielded]
    cases hd : (ops[j]?).bind (·.dst) with
    | none => simp
    | some d =>
      have := h.get d
      simp only [Option.bind_some]
      rw [← this, Array.getD_eq_getD_getElem?]
      cases a.tmps[d]? with
      | none => simp [undef]
      | some v => cases v <;> simp

def dstOk (n : Nat) (l : List Oper) : Bool := l.all fun o => o.dst.all (· < n) && noDefer o

/-- A list of operations, from these slots on, in the text's order. -/
def WL (P : Program) (n : Nat) (ops : Array Oper) (rest : List Oper) (Q : Exit → Env → World → Prop) (ρ : Env) (w : World) : Prop :=
  dstOk n rest = true → ∀ a, EnvOf n ρ a → ∀ is : List Nat, is.map (fun i : Nat => ops[i]?) = rest.map some → ∀ (b : Frame) (k : List Item) (cs : List Frame), b.roundOf = ρ.rd →
    ∃ e a' w', lift n Q e a' w' ρ.rd ∧ ArrR P (lone (b.atR a (.inRegion ops is :: k)) cs w) b k cs e a' w'

section
variable {P : Program} {n : Nat} {Q : Exit → Env → World → Prop} {ρ : Env} {w : World} {ops : Array Oper} {rest : List Oper}

theorem W.region {id : Nat} {l : List Oper} (hd : dstOk n l = true) (h : WL P n l.toArray l Q ρ w) : W P n (.region id l.toArray false) Q ρ w := by
  intro a ha b k cs hb
  have hm : (List.range l.toArray.size).map (fun i : Nat => l.toArray[i]?) = l.map some := by
    apply List.ext_getElem?
    intro i
    rw [List.getElem?_map, List.getElem?_map]
    by_cases hi : i < l.length
    · rw [List.getElem?_eq_getElem (by simpa using hi)]; simp [hi]
    · rw [List.getElem?_eq_none (by simp; omega), List.getElem?_eq_none (by omega)]; rfl
  obtain ⟨e, a', w', h1, h2⟩ := h hd a ha _ hm b k cs hb
  exact ⟨e, a', w', h1, .of_steps (.one stepR_region) h2⟩
theorem WL.nil (h : Q .normal ρ w) : WL P n ops [] Q ρ w := by
  intro _ a ha is hm b k cs hb
  have : is = [] := by cases is <;> simp at hm ⊢
  subst this
  exact ⟨.normal, a, w, ⟨ρ, ha, rfl, h⟩, .one stepR_region_end⟩
/-- one operation, and what comes behind it -/
theorem WL.opR {o : Oper} (h : dstOk n (o :: rest) = true → ∀ a, EnvOf n ρ a → ∀ i : Nat, ops[i]? = some o → opR P ops i (fun a' w' => ∃ ρ', EnvOf n ρ' a' ∧ ρ'.rd = ρ.rd ∧ WL P n ops rest Q ρ' w') a w ρ.rd) : WL P n ops (o :: rest) Q ρ w := by
  intro hd a ha is hm b k cs hb
  cases is with
  | nil => simp at hm
  | cons i is =>
    simp only [List.map_cons, List.cons.injEq] at hm
    obtain ⟨a', w', ⟨ρ', h1, h2, h3⟩, hs⟩ := h hd a ha i hm.1 b is k cs hb
    have hd' : dstOk n rest = true := by simp only [dstOk, List.all_cons, Bool.and_eq_true] at hd ⊢; exact hd.2
    obtain ⟨e, a2, w2, h4, h5⟩ := h3 hd' a' h1 is hm.2 b k cs (by rw [h2]; exact hb)
    rw [h2] at h4
    exact ⟨e, a2, w2, h4, .of_steps hs h5⟩
theorem dstOk_head {o : Oper} (h : dstOk n (o :: rest) = true) : o.dst.all (· < n) = true ∧ noDefer o = true := by
  simp only [dstOk, List.all_cons, Bool.and_eq_true] at h; exact h.1

theorem WL.step {d : Option Nat} {op : Op} {ty : TypeId} {pos : String} {aft : Array Edge} {g : Option (Nat × Bool)} {v : Value} {w' : World} (hg : ρ.want ops g = true)
    (h : Step P op ty ρ w v w') (k : WL P n ops rest Q (ρ.put d v) w') : WL P n ops (⟨d, op, ty, pos, aft, g⟩ :: rest) Q ρ w := by
  refine WL.opR fun hd a ha i hi => ?_
  obtain ⟨h1, h2⟩ := dstOk_head hd
  refine opR_value (v := v) hi h2 (by rw [ha.yielded]; exact hg) (by rw [ha.eval]; exact h d pos aft g) ⟨_, ha.put d h1 v, Env.put_rd .., k⟩
theorem WL.pass {d : Option Nat} {op : Op} {ty : TypeId} {pos : String} {aft : Array Edge} {g : Option (Nat × Bool)} (hg : ρ.want ops g = false)
    (k : WL P n ops rest Q (ρ.put d undef) w) : WL P n ops (⟨d, op, ty, pos, aft, g⟩ :: rest) Q ρ w := by
  refine WL.opR fun hd a ha i hi => ?_
  obtain ⟨h1, h2⟩ := dstOk_head hd
  exact opR_pass hi (by rw [ha.yielded]; exact hg) ⟨_, ha.put d h1 undef, Env.put_rd .., k⟩

/-- The function of this number is entered when it is called. -/
def Enters (P : Program) (f : FuncId) : Prop := ∀ args w, (callFunc f args).run P w = .ok (.enter f args) w

/-- An operation that calls: it enters f with these arguments. -/
def CallsF (P : Program) (op : Op) (ty : TypeId) (ρ : Env) (w : World) (f : FuncId) (args : Array Value) : Prop :=
  ∀ d pos aft g, (execOp ρ.ev ⟨d, op, ty, pos, aft, g⟩).run P w = .ok (.enter f args) w
theorem CallsF.func {c : Array Operand} {ts : Array TypeId} {ty : TypeId} {f : FuncId} {args : List Value} (he : Enters P f) (ha : c.toList.map ρ.ev = args) :
    CallsF P (.call { callee := .value (.func f), args := c, argTypes := ts }) ty ρ w f args.toArray := by
  intro d pos aft g
  have := he args.toArray w
  have hc : c.map ρ.ev = args.toArray := Array.ext' (by rw [Array.toList_map, ha])
  simp only [execOp, resolve, Env.ev, Deferred.ofValue, invoke, hc, Sem.run_bind, Sem.run_pure, Result.andThen_ok, Array.append_empty, Array.empty_append, this]
theorem CallsF.value {c : Array Operand} {ts : Array TypeId} {ty : TypeId} {x : Operand} {f : FuncId} {first captured : Array Value} {args as : List Value} (he : Enters P f)
    (hx : ρ.ev x = .func (.func f) first captured) (ha : c.toList.map ρ.ev = as) (hargs : first.toList ++ as ++ captured.toList = args) :
    CallsF P (.call { callee := .value x, args := c, argTypes := ts }) ty ρ w f args.toArray := by
  intro d pos aft g
  have := he args.toArray w
  have hc : c.map ρ.ev = as.toArray := Array.ext' (by rw [Array.toList_map, ha])
  have hh : first ++ as.toArray ++ captured = args.toArray := Array.ext' (by rw [← hargs]; simp)
  simp only [execOp, resolve, hx, Deferred.ofValue, invoke, hc, Sem.run_bind, Sem.run_pure, Result.andThen_ok, hh, this]

/-- An operation that calls: this is entered. -/
def CallsN (P : Program) (op : Op) (ty : TypeId) (ρ : Env) (w : World) (nx : Next) : Prop :=
  ∀ d pos aft g, (execOp ρ.ev ⟨d, op, ty, pos, aft, g⟩).run P w = .ok nx w
/-- a call of a function's value -/
def vcall (y : Value) (args : Array Value) : Sem Next := do let d ← Deferred.ofValue y args; invoke d.target d.args
def RetsV (P : Program) (y : Value) (args : Array Value) (w : World) (R : Value → World → Prop) : Prop := ∃ nx, nxCall nx = true ∧ (vcall y args).run P w = .ok nx w ∧ Leads P nx w R
theorem RetsV.mono {y : Value} {args : Array Value} {R R' : Value → World → Prop} (h : RetsV P y args w R) (hr : ∀ v w', R v w' → R' v w') : RetsV P y args w R' :=
  let ⟨nx, h1, h2, h3⟩ := h; ⟨nx, h1, h2, h3.mono hr⟩
theorem CallsN.value {c : Array Operand} {ts : Array TypeId} {ty : TypeId} {x : Operand} {y : Value} {as : List Value} {nx : Next} (hx : ρ.ev x = y) (ha : c.toList.map ρ.ev = as) (h : (vcall y as.toArray).run P w = .ok nx w) :
    CallsN P (.call { callee := .value x, args := c, argTypes := ts }) ty ρ w nx := by
  intro d pos aft g
  have hc : c.map ρ.ev = as.toArray := Array.ext' (by rw [Array.toList_map, ha])
  simp only [execOp, resolve, hx, hc]
  exact h

theorem WL.callN {d : Option Nat} {op : Op} {ty : TypeId} {pos : String} {aft : Array Edge} {g : Option (Nat × Bool)} {nx : Next} {R : Value → World → Prop} (hg : ρ.want ops g = true)
    (hc : CallsN P op ty ρ w nx) (hn : nxCall nx = true) (h : Leads P nx w R) (k : ∀ v w', R v w' → WL P n ops rest Q (ρ.put d v) w') : WL P n ops (⟨d, op, ty, pos, aft, g⟩ :: rest) Q ρ w := by
  refine WL.opR fun hd a ha i hi => ?_
  obtain ⟨h1, h2⟩ := dstOk_head hd
  exact opR_call hi h2 (by rw [ha.yielded]; exact hg) hn (by rw [ha.eval]; exact hc d pos aft g) h fun v w' hR => ⟨_, ha.put d h1 v, Env.put_rd .., k v w' hR⟩
theorem WL.call {d : Option Nat} {op : Op} {ty : TypeId} {pos : String} {aft : Array Edge} {g : Option (Nat × Bool)} {f : FuncId} {args : Array Value} {R : Value → World → Prop} (hg : ρ.want ops g = true)
    (hc : CallsF P op ty ρ w f args) (h : Rets P f args w R) (k : ∀ v w', R v w' → WL P n ops rest Q (ρ.put d v) w') : WL P n ops (⟨d, op, ty, pos, aft, g⟩ :: rest) Q ρ w :=
  WL.callN hg hc rfl h.leads k
end

/-! ## Types -/
def Scal (P : Program) (t : TypeId) : Prop := ∀ w, (isAgg t).run P w = .ok false w
structure Aggr (P : Program) (t : TypeId) (k : Nat) : Prop where
  agg : ∀ w, (isAgg t).run P w = .ok true w
  size : ∀ w, (Go.sizeOf t).run P w = .ok k w
def Sized (P : Program) (t : TypeId) (k : Nat) : Prop := ∀ w, (Go.sizeOf t).run P w = .ok k w

/-! ## Steps -/
namespace Step
variable {P : Program} {ρ : Env} {w w' : World} {ty : TypeId}

theorem pure {op : Op} {v : Value} (h : (execOp ρ.ev ⟨none, op, ty, "", #[], none⟩).run P w = .ok (.value v) w) : Step P op ty ρ w v w :=
  fun _ _ _ _ => .inl h
theorem make {op : Op} {v : Value} (h : (execOp ρ.ev ⟨none, op, ty, "", #[], none⟩).run P w = .ok (.value v) w') : Step P op ty ρ w v w' :=
  fun _ _ _ _ => .inl h
theorem move {x : Operand} {v : Value} (h : ρ.ev x = v) : Step P (.move x) ty ρ w v w := fun _ _ _ _ => .inl (by rw [← h]; rfl)
theorem assign {x : Operand} {v : Value} (h : ρ.ev x = v) : Step P (.assign x) ty ρ w v w := fun _ _ _ _ => .inl (by rw [← h]; rfl)
theorem pick {c x y : Operand} {t : Bool} {v : Value} (hc : ρ.ev c = .bool t) (h : (if t then ρ.ev x else ρ.ev y) = v) : Step P (.pick c x y) ty ρ w v w := by
  intro d pos aft g
  left
  simp only [execOp, hc, asBool, Sem.run_bind, Sem.run_pure, Result.andThen_ok]
  rw [← h]

theorem load1 {t : TypeId} {x : Operand} {a : Addr} {v : Value} (ht : Scal P t) (ha : ρ.ev x = .pointer (some a)) (hc : w.cell? a = some v) : Step P (.load t x) ty ρ w v w := by
  intro d pos aft g
  left
  simp [execOp, ha, Instr.loadAt, Instr.sureAddr, loadVar, ht w, load, Sem.run, hc]
theorem loadN {t : TypeId} {x : Operand} {b o k : Nat} {c cs : Array Value} {e : TypeId} {fz : Nat × Nat} (ht : Aggr P t k) (ha : ρ.ev x = .pointer (some ⟨b, o, none⟩))
    (hb : w.heap[b]? = some (.cells c e fz)) (hs : o + k ≤ c.size) (hcs : c.extract o (o + k) = cs) : Step P (.load t x) ty ρ w (.agg cs) w := by
  intro d pos aft g
  left
  have key : ∀ (m i : Nat) (acc : Array Value), o + i + m ≤ c.size → (loadCellsFrom ⟨b, o, none⟩ i m acc).run P w = .ok (acc ++ c.extract (o + i) (o + i + m)) w := by
    intro m
    induction m with
    | zero => intro i acc _; simp [loadCellsFrom]; omega
    | succ m ih =>
      intro i acc hlt
      have hcell : w.cell? ((⟨b, o, none⟩ : Addr).add i) = some c[o + i] := by
        have : (⟨b, o, none⟩ : Addr).add i = ⟨b, o + i, none⟩ := by unfold Addr.add; split <;> simp_all
        rw [this, cell_blk hb]; simp
      simp only [loadCellsFrom, Sem.run_bind, load, Sem.run, hcell, Result.andThen_ok]
      rw [ih (i + 1) _ (by omega)]
      congr 1
      apply Array.ext'
      simp only [Array.toList_append, Array.toList_push, Array.toList_extract, List.append_assoc, List.extract_eq_take_drop]
      have h1 : o + (i + 1) + m - (o + (i + 1)) = m := by omega
      have h2 : o + i + (m + 1) - (o + i) = m + 1 := by omega
      rw [h1, h2]
      have h3 : o + i < c.toList.length := by simp; omega
      rw [List.drop_eq_getElem_cons h3, List.take_succ_cons]
      simp [Nat.add_assoc]
  have := key k 0 #[] (by simpa using hs)
  simp only [Nat.add_zero, Array.empty_append] at this
  simp [execOp, ha, Instr.loadAt, Instr.sureAddr, loadVar, ht.agg w, ht.size w, loadCells, this, hcs]

theorem alloc {t : TypeId} {z : Value} (hz : ∀ w, (zeroValue t).run P w = .ok z w) : Step P (.alloc t) ty ρ w (.pointer (some ⟨w.heap.size, 0, none⟩)) (w.alloc (.cells z.cells t)) := by
  intro d pos aft g
  left
  simp [execOp, Instr.alloc, hz w, newVar, newRow, newObj, Sem.run]
theorem box {t : TypeId} {x : Operand} {v : Value} (h : ρ.ev x = v) : Step P (.box t x) ty ρ w (.pointer (some ⟨w.heap.size, 0, none⟩)) (w.alloc (.cells v.cells t)) := by
  intro d pos aft g
  left
  simp [execOp, h, Instr.box, newVar, newRow, newObj, Sem.run]

/-- values of cells -/
def Cellish (l : List Value) : Prop := ∀ v, v ∈ l → (∀ cs, v ≠ .agg cs) ∧ (∀ vs, v ≠ .tuple vs)
def put (c : Array Value) : Nat → List Value → Array Value
  | _, [] => c
  | o, v :: l => put (c.setIfInBounds o v) (o + 1) l
theorem put_size (l : List Value) : ∀ (c : Array Value) (o : Nat), (put c o l).size = c.size := by
  induction l with
  | nil => intro c o; rfl
  | cons v l ih => intro c o; simp [put, ih]
theorem storeCells_run {b o : Nat} {e : TypeId} : ∀ (l : List Value) (i : Nat) (c : Array Value) (w : World), w.heap[b]? = some (.cells c e (0, 0)) → o + i + l.length ≤ c.size → Cellish l →
    (storeCells ⟨b, o, none⟩ l i).run P w = .ok () (World.blkSet w b (.cells (put c (o + i) l) e)) := by
  intro l
  induction l with
  | nil =>
    intro i c w hb _ _
    have : World.blkSet w b (.cells c e) = w := by
      obtain ⟨h1, h2⟩ := Array.getElem?_eq_some_iff.1 hb
      unfold World.blkSet
      rw [show w.heap.setIfInBounds b (.cells c e) = w.heap from by
        apply Array.ext
        · simp
        · intro k k1 k2
          rw [Array.getElem_setIfInBounds (by simpa using k1)]
          split
          · rename_i e; subst e; exact h2.symm
          · rfl]
    simp [storeCells, put, this]
  | cons v l ih =>
    intro i c w hb hs hl
    have hadd : (⟨b, o, none⟩ : Addr).add i = ⟨b, o + i, none⟩ := by unfold Addr.add; split <;> simp_all
    have hlen : o + i < c.size := by simp only [List.length_cons] at hs; omega
    have hst : (store ((⟨b, o, none⟩ : Addr).add i) v).run P w = .ok () (World.blkSet w b (.cells (c.setIfInBounds (o + i) v) e)) := by
      have h1 := (hl v (by simp)).1
      have h2 := (hl v (by simp)).2
      have hc : w.cell? ⟨b, o + i, none⟩ = some c[o + i] := by rw [cell_blk hb]; simp
      rw [hadd, store, ← setCell_blk hb]
      cases v <;> first | (exact absurd rfl (h1 _)) | (exact absurd rfl (h2 _)) | simp [Sem.run, hc, frozen_blk hb]
    have hb' : (World.blkSet w b (.cells (c.setIfInBounds (o + i) v) e)).heap[b]? = some (.cells (c.setIfInBounds (o + i) v) e (0, 0)) := blkSet_at _ (lt_of_blk hb)
    simp only [storeCells, Sem.run_bind, hst, Result.andThen_ok]
    rw [ih (i + 1) _ _ hb' (by simp only [List.length_cons] at hs; rw [Array.size_setIfInBounds]; omega) (fun v hv => hl v (by simp [hv]))]
    simp only [put, World.blkSet, Array.setIfInBounds_setIfInBounds, Nat.add_assoc]
theorem store {t : TypeId} {x y : Operand} {b o k : Nat} {c c' : Array Value} {e : TypeId} {v : Value} (ht : Sized P t k) (ha : ρ.ev x = .pointer (some ⟨b, o, none⟩)) (hv : ρ.ev y = v)
    (hk : v.cells.size = k) (hb : w.heap[b]? = some (.cells c e (0, 0))) (hs : o + k ≤ c.size) (hl : Cellish v.cells.toList) (hc : put c o v.cells.toList = c') :
    Step P (.store t x y) ty ρ w undef (World.blkSet w b (.cells c' e)) := by
  intro d pos aft g
  right
  have := storeCells_run (P := P) (o := o) v.cells.toList 0 c w hb (by simp only [Array.length_toList]; omega) hl
  simp only [Nat.add_zero, hc] at this
  simp [execOp, ha, hv, Instr.storeAt, Instr.sureAddr, storeVar, ht w, hk, this]
end Step
end Tp
