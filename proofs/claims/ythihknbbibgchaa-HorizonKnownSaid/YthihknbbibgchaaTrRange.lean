/- Ranges over functions; chunks that are bound together; functions that are handed on. -/
import Derived.Test.YthihknbbibgchaaTrOps3
import Derived.Test.YthihknbbibgchaaTrCall
import Derived.RangeFuncIn
namespace Tp
open Go

/-! ### Chunks bound together -/
def packL (Ls : List Chunk) : Chunk := ⟨Foots Ls, fun w => (Ls.Pairwise fun c d => ∀ b, c.foot b → ¬ d.foot b) ∧ ∀ c, c ∈ Ls → c.Ok w⟩
namespace Mem
variable {F X : Nat → Prop} {w0 w w' : World} {L L' Ls : List Chunk} {R R' : List (World → Prop)}
theorem packL (M : Mem F X w0 (Ls ++ L) R w) : Mem F X w0 (Tp.packL Ls :: L) R w :=
  Mem.take (C' := Ls) M _ rfl fun w' hok => ⟨(List.pairwise_append.1 M.disj).1, hok⟩
end Mem

/-! ### The record of a range over a function -/
def loopC (n : Nat) (f : Nat → Value) (ps : Array Tmp) (as bd : Code) (l : Nat) (st : LoopState) (pend : Option Code) : Chunk :=
  ⟨(· = l), fun w => ∃ r : Loop, w.heap[l]? = some (.loop r) ∧ r.state = st ∧ r.pending = pend ∧ r.params = ps ∧ r.assign = as ∧ r.body = bd ∧ EnvOf n ⟨f, [], some l⟩ ⟨r.tmps, []⟩⟩
section
variable {n : Nat} {f : Nat → Value} {ps : Array Tmp} {as bd : Code} {l : Nat} {st : LoopState} {pend : Option Code} {w : World}
theorem loopC_ok (h : (loopC n f ps as bd l st pend).inv w) : (loopC n f ps as bd l st pend).Ok w := by
  obtain ⟨r, h1, h2⟩ := h
  exact ⟨fun _ e => by rw [show _ = l from e]; exact lt_of_blk h1, fun _ h' => ⟨r, (h' l rfl).trans h1, h2⟩⟩
theorem putObj_mod (w : World) (b : Nat) (o : Obj) : Mod (· = b) w (w.putObj b o) := blkSet_mod w b o
variable {F X : Nat → Prop} {w0 : World} {L : List Chunk} {R : List (World → Prop)}
theorem Mem.loopSet (M : Mem F X w0 L R w) (i : Nat) (hi : L[i]? = some (loopC n f ps as bd l st pend)) (st' : LoopState) (pend' : Option Code) :
    ∃ r : Loop, w.heap[l]? = some (.loop r) ∧ r.state = st ∧ r.pending = pend ∧ Mem F X w0 (L.set i (loopC n f ps as bd l st' pend')) R (w.putObj l (.loop { r with state := st', pending := pend' })) := by
  obtain ⟨r, h1, h2, h3, h4⟩ := (M.chunk i hi).inv
  refine ⟨r, h1, h2, h3, M.turn i hi (putObj_mod w l _) (loopC_ok ⟨_, World.putObj_heap_same (lt_of_blk h1), rfl, rfl, h4⟩) fun _ h => .inl h⟩
theorem Mem.beginRound (M : Mem F X w0 L R w) (i : Nat) (hi : L[i]? = some (loopC n f ps as bd l .ready pend)) :
    ∃ r : Loop, w.heap[l]? = some (.loop r) ∧ r.state = .ready ∧ Mem F X w0 (L.set i (loopC n f ps as bd l .busy pend)) R (w.putObj l (.loop { r with state := .busy })) := by
  obtain ⟨r, h1, h2, h3, h4⟩ := M.loopSet i hi .busy pend
  exact ⟨r, h1, h2, by rw [← h3] at h4 ⊢; exact h4⟩
theorem Mem.endRound (M : Mem F X w0 L R w) (i : Nat) (hi : L[i]? = some (loopC n f ps as bd l st pend)) (jump : Option Code) :
    ∃ r : Loop, w.heap[l]? = some (.loop r) ∧ Mem F X w0 (L.set i (loopC n f ps as bd l (if jump.isNone then .ready else .done) jump)) R (w.putObj l (.loop { r with state := if jump.isNone then .ready else .done, pending := jump })) :=
  let ⟨r, h1, _, _, h4⟩ := M.loopSet i hi (if jump.isNone then .ready else .done) jump; ⟨r, h1, h4⟩
theorem Mem.strike {D : Nat} (M : Mem F X w0 L R w) (i : Nat) (hi : L[i]? = some (Tp.blk D (.deferred (some [])))) : w.heap[D]? = some (.deferred (some [])) ∧ Mem F X w0 (L.eraseIdx i) R (w.putObj D (.deferred none)) :=
  ⟨M.blk i hi, M.lose1 i hi (putObj_mod w D _)⟩
end

/-! ### A round -/
def RoundQ (l : Nat) (R : Value → World → Prop) (e : Exit) (_ : Env) (w : World) : Prop :=
  (e = .normal ∧ ∃ r : Loop, w.heap[l]? = some (.loop r) ∧ R (.bool true) (w.putObj l (.loop { r with state := .ready, pending := none }))) ∨
  (e = .ret ∧ ∃ r : Loop, w.heap[l]? = some (.loop r) ∧ R (.bool false) (w.putObj l (.loop { r with state := .done, pending := some .ret })))
def RoundA (P : Program) (n : Nat) (bd : Code) (l : Nat) (R : Value → World → Prop) (e : Exit) (ρ : Env) (w : World) : Prop :=
  e = .normal ∧ ∃ r : Loop, w.heap[l]? = some (.loop r) ∧ r.state = .ready ∧ W P n bd (RoundQ l R) ρ (w.putObj l (.loop { r with state := .busy }))
def Env.puts (ρ : Env) : List (Tmp × Value) → Env
  | [] => ρ
  | (t, v) :: l => (ρ.put (some t) v).puts l
theorem EnvOf.puts {n : Nat} : ∀ (l : List (Tmp × Value)) {ρ : Env} {a : Act}, EnvOf n ρ a → (∀ p, p ∈ l → p.1 < n) → EnvOf n (ρ.puts l) ⟨l.foldl (fun t p => t.setIfInBounds p.1 p.2) a.tmps, a.defers⟩
  | [], _, _, h, _ => h
  | (t, v) :: l, ρ, a, h, hl => EnvOf.puts l (h.put (some t) (by simpa using hl (t, v) (by simp)) v) fun p hp => hl p (by simp [hp])
section
variable {P : Program} {n : Nat} {f : Nat → Value} {ps : Array Tmp} {as bd : Code} {l : Nat} {w w0 : World} {F X : Nat → Prop} {L : List Chunk} {R : List (World → Prop)} {Q : Value → World → Prop}
theorem RoundA.go {LC : LoopState → Option Code → Chunk} {pend : Option Code} {ρ : Env} (hLC : loopC n f ps as bd l = LC) (M : Mem F X w0 L R w) (i : Nat) (hi : L[i]? = some (LC .ready pend))
    (k : ∀ w', Mem F X w0 (L.set i (LC .busy pend)) R w' → W P n bd (RoundQ l Q) ρ w') : RoundA P n bd l Q .normal ρ w := by
  subst hLC
  obtain ⟨r, h1, h2, h3⟩ := M.beginRound i hi
  exact ⟨rfl, r, h1, h2, k _ h3⟩
theorem RoundQ.go {LC : LoopState → Option Code → Chunk} {st : LoopState} {pend : Option Code} {ρ : Env} (hLC : loopC n f ps as bd l = LC) (M : Mem F X w0 L R w) (i : Nat) (hi : L[i]? = some (LC st pend))
    (k : ∀ w', Mem F X w0 (L.set i (LC .ready none)) R w' → Q (.bool true) w') : RoundQ l Q .normal ρ w := by
  subst hLC
  obtain ⟨r, h1, h2⟩ := M.endRound i hi none
  exact .inl ⟨rfl, r, h1, k _ h2⟩
theorem RoundQ.stop {LC : LoopState → Option Code → Chunk} {st : LoopState} {pend : Option Code} {ρ : Env} (hLC : loopC n f ps as bd l = LC) (M : Mem F X w0 L R w) (i : Nat) (hi : L[i]? = some (LC st pend))
    (k : ∀ w', Mem F X w0 (L.set i (LC .done (some .ret))) R w' → Q (.bool false) w') : RoundQ l Q .ret ρ w := by
  subst hLC
  obtain ⟨r, h1, h2⟩ := M.endRound i hi (some .ret)
  exact .inr ⟨rfl, r, h1, k _ h2⟩
/-- the statement -/
theorem W.range {g : Operand} {gf : FuncId} {first lb : Array Value} {ρ : Env} {Q : Exit → Env → World → Prop} (M : Mem F X w0 L R w) (hrd : ρ.rd = none) (hds : ρ.ds = []) (hg : ρ.ev g = .func (.func gf) first lb) (he : Enters P gf)
    (h : ∀ (D l : Nat) (w1 : World) (LC : LoopState → Option Code → Chunk), loopC n ρ.f ps as bd l = LC → w0.heap.size ≤ D → w0.heap.size ≤ l → Mem F X w0 (LC .ready none :: blk D (.deferred (some [])) :: L) R w1 →
      Rets P gf (first.toList ++ [Value.func (.yield l) #[] #[]] ++ lb.toList).toArray w1 fun _ w' => ∃ r : Loop, w'.heap[l]? = some (.loop r) ∧ r.state ≠ .busy ∧
        ((r.pending = none ∧ Q .normal (ρ.mark D) (w'.putObj l (.loop { r with state := .exhausted }))) ∨ (r.pending = some .ret ∧ Q .ret (ρ.mark D) (w'.putObj l (.loop { r with state := .exhausted }))))) :
    W P n (.rangeFunc g ps as bd) Q ρ w := by
  intro a ha b k cs hb
  have hb0 : b.roundOf = none := by rw [hb, hrd]
  have M1 := M.push (.deferred (some []))
  have M2 := M1.push (.loop { state := .ready, pending := none, fn := b.fn, tmps := a.tmps, params := ps, assign := as, body := bd, defers := w.heap.size })
  have hsz : (w.alloc (.deferred (some []))).heap.size = w.heap.size + 1 := by simp
  have hl : (loopC n ρ.f ps as bd (w.heap.size + 1) .ready none).Ok ((w.alloc (.deferred (some []))).alloc (.loop { state := .ready, pending := none, fn := b.fn, tmps := a.tmps, params := ps, assign := as, body := bd, defers := w.heap.size })) := by
    have := M2.blk 0 rfl
    rw [hsz] at this
    exact loopC_ok ⟨_, this, rfl, rfl, rfl, rfl, rfl, ⟨ha.size, ha.get, rfl⟩⟩
  have M3 := M1.own (push_old _ (.loop { state := .ready, pending := none, fn := b.fn, tmps := a.tmps, params := ps, assign := as, body := bd, defers := w.heap.size })) hl (fun b hb => by rw [hsz]; exact Nat.le_of_eq (Eq.symm hb))
  obtain ⟨e, w2, fr, ⟨v, rfl, r, q1, q2, q3⟩, hc, _, hlv⟩ := h w.heap.size (w.heap.size + 1) _ _ rfl M.mod.size (Nat.le_trans M.mod.size (Nat.le_succ _)) M3 (b.atR { a with defers := [markD w.heap.size] ++ a.defers } (.inRangeFunc (w.heap.size + 1) :: k) :: cs)
  have hen : (Instr.enterLoop b.fn a.tmps ps as bd b.roundOf).run P w = .ok (w.heap.size + 1, [markD w.heap.size]) ((w.alloc (.deferred (some []))).alloc (.loop { state := .ready, pending := none, fn := b.fn, tmps := a.tmps, params := ps, assign := as, body := bd, defers := w.heap.size })) := by
    rw [hb0]; exact run_enterLoop_outer _ _ _ _ _
  have harg : first ++ #[Value.func (.yield (w.heap.size + 1)) #[] #[]] ++ lb = (first.toList ++ [Value.func (.yield (w.heap.size + 1)) #[] #[]] ++ lb.toList).toArray := Array.ext' (by simp)
  have s0 := stepR_rangeFunc (P := P) (b := b) (a := a) (k := k) (cs := cs) (w := w) (g := g) (f := gf) (args := (first.toList ++ [Value.func (.yield (w.heap.size + 1)) #[] #[]] ++ lb.toList).toArray)
    (w₁' := (w.alloc (.deferred (some []))).alloc (.loop { state := .ready, pending := none, fn := b.fn, tmps := a.tmps, params := ps, assign := as, body := bd, defers := w.heap.size }))
    (w₂ := (w.alloc (.deferred (some []))).alloc (.loop { state := .ready, pending := none, fn := b.fn, tmps := a.tmps, params := ps, assign := as, body := bd, defers := w.heap.size })) hen (d := { target := .fn (.func gf) lb, args := first ++ #[Value.func (.yield (w.heap.size + 1)) #[] #[]] })
    (by simp only [resolve, ha.eval, hg, Deferred.ofValue, Sem.run_pure]; simp [Env.ev]) (by simp only [invoke]; rw [harg]; exact he _ _)
  have s1 := Steps.head s0 (Steps.trans hc (.one (step_leave_returned hlv)))
  rw [finish_atR_inRangeFunc] at s1
  have s2 := s1.trans (.one (stepR_endRangeFunc (run_endLoop q1 q2)))
  have hE : EnvOf n (ρ.mark w.heap.size) { a with defers := [markD w.heap.size] ++ a.defers } := ⟨ha.size, ha.get, by simp [Env.mark, ha.defers]⟩
  rcases q3 with ⟨e1, q⟩ | ⟨e1, q⟩
  · rw [show (Option.map Item.code r.pending).toList ++ k = k by rw [e1]; rfl] at s2
    exact ⟨.normal, _, _, ⟨_, hE, rfl, q⟩, s2⟩
  · rw [show (Option.map Item.code r.pending).toList ++ k = .code .ret :: k by rw [e1]; rfl] at s2
    exact ⟨.ret, _, _, ⟨_, hE, rfl, q⟩, k, s2⟩
end

/-- a proposition, as a chunk -/
def propC (p : Prop) : Chunk := ⟨fun _ => False, fun _ => p⟩
/-- what can't be -/
def badC : Chunk := ⟨fun _ => False, fun _ => False⟩

/-! ### Functions that are handed on -/
/-- a test, of each of these; the memory of its own goes from C k to C (k + 1) -/
def FnC {α ι : Type} (P : Program) (f : Value) (enc : α → Value) (xs : List α) (p : α → Bool) (C : Nat → ι → Chunk) : Prop :=
  ∀ (k : Nat) (i : ι) (x : α) (w : World), xs[k]? = some x → Mem (avoid [C k i]) (Foots [C k i]) w [C k i] [] w →
    RetsV P f #[enc x] w fun r w' => r = .bool (p x) ∧ ∃ i', Mem (avoid [C k i]) (Foots [C k i]) w [C (k + 1) i'] [] w'
/-- the same, where nothing is turned: a fact -/
def FnB {α : Type} (P : Program) (f : Value) (enc : α → Value) (xs : List α) (p : α → Bool) (w : World) : Prop :=
  ∀ (x : α), x ∈ xs → RetsV P f #[enc x] w fun r w' => r = .bool (p x) ∧ Old w w'
end Tp
