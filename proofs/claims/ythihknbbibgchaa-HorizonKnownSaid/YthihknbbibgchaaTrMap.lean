/- Maps whose keys are integers. -/
import Derived.Test.YthihknbbibgchaaTrCall
import Derived.MapKept
namespace Tp
open Go

/-- a map's block: its entries, keys and values, in the order in which they lie -/
def mapC (k : IntKind) (b : Nat) (kvs : List (Int × Value)) : Chunk :=
  ⟨(· = b), fun w => ∃ es ck, w.heap[b]? = some (.map es ck) ∧ es.toList.map (fun e => (e.key, e.val)) = kvs.map fun p => (Value.int k p.1, p.2)⟩
def mfind (a : Int) : List (Int × Value) → Nat → Option (Nat × Value)
  | [], _ => none
  | p :: l, i => if a == p.1 then some (i, p.2) else mfind a l (i + 1)
theorem findNow_int {k : IntKind} {a : Int} : ∀ {l : List MapEntry} {kvs : List (Int × Value)} (i : Nat), l.map (fun e => (e.key, e.val)) = kvs.map (fun p => (Value.int k p.1, p.2)) →
    Instr.findNow (.int k) (.int k a) l i = some (mfind a kvs i)
  | [], [], _, _ => rfl
  | [], _ :: _, _, h => by simp at h
  | _ :: _, [], _, h => by simp at h
  | e :: l, p :: kvs, i, h => by
    simp only [List.map_cons, List.cons.injEq, Prod.mk.injEq] at h
    obtain ⟨⟨h1, h2⟩, h3⟩ := h
    simp only [Instr.findNow, h1, Instr.sameNow, if_pos, mfind, h2]
    by_cases e : a = p.1
    · simp [e]
    · have e' : (a == p.1) = false := by simp [e]
      simp [e', findNow_int (i + 1) h3]
def mset (a : Int) (v : Value) (kvs : List (Int × Value)) : List (Int × Value) :=
  match mfind a kvs 0 with
  | some (i, _) => kvs.set i (a, v)
  | none => kvs ++ [(a, v)]
def mdel (a : Int) (kvs : List (Int × Value)) : List (Int × Value) :=
  match mfind a kvs 0 with
  | some (i, _) => kvs.eraseIdx i
  | none => kvs

/-- the map's key and element types -/
structure MapT (P : Program) (t kt et : TypeId) (k : IntKind) (z : Value) : Prop where
  und : Und P t (.map kt et)
  key : Und P kt (.int k)
  zero : ∀ w, (zeroValue et).run P w = .ok z w

section
variable {P : Program} {ρ : Env} {F X : Nat → Prop} {w w0 : World} {L : List Chunk} {R : List (World → Prop)} {ty t kt et : TypeId} {k : IntKind} {z : Value} {b : Nat} {kvs : List (Int × Value)} {x ix y : Operand} {a : Int}

theorem Step.lookup {es : Array MapEntry} {ck : Nat} (ht : MapT P t kt et k z) (hx : ρ.ev x = .map (some b)) (hi : ρ.ev ix = .int k a) (hb : w.heap[b]? = some (.map es ck)) (he : es.toList.map (fun e => (e.key, e.val)) = kvs.map fun p => (Value.int k p.1, p.2)) :
    Step P (.lookup t x ix true) ty ρ w (.tuple #[((mfind a kvs 0).map (·.2)).getD z, .bool (mfind a kvs 0).isSome]) w := by
  intro d pos aft g
  left
  have h1 := MapKept.run_findKey (w := w) ht.key (findNow_int (a := a) 0 he)
  have h2 := MapKept.run_checkKey (w := w) (k := .int k a) ht.key (by simp [MapKept.IsKey]) es.isEmpty 9999
  simp only [execOp, Instr.lookup, hx, hi, Sem.run_bind, ht.und.run, Result.andThen_ok, MapKept.run_getObj_map hb, Sem.run_pure, h1, h2]
  cases hm : mfind a kvs 0 with
  | none => simp [ht.zero w]
  | some p => simp
theorem Mem.lookup (M : Mem F X w0 L R w) (i : Nat) (hL : L[i]? = some (mapC k b kvs)) (ht : MapT P t kt et k z) (hx : ρ.ev x = .map (some b)) (hi : ρ.ev ix = .int k a) :
    Step P (.lookup t x ix true) ty ρ w (.tuple #[((mfind a kvs 0).map (·.2)).getD z, .bool (mfind a kvs 0).isSome]) w := by
  obtain ⟨es, ck, h1, h2⟩ := (M.chunk i hL).inv
  exact Step.lookup ht hx hi h1 h2
theorem eraseIdx_map' {α β : Type} (f : α → β) : ∀ (l : List α) (i : Nat), (l.eraseIdx i).map f = (l.map f).eraseIdx i
  | [], _ => rfl
  | _ :: _, 0 => rfl
  | x :: l, i + 1 => by simp [eraseIdx_map' f l i]
theorem Step.makeMap : Step P (.makeMap t none) ty ρ w (.map (some w.heap.size)) (w.alloc (.map #[] 0)) := by
  intro d pos aft g
  left
  simp [execOp, Instr.makeMap, newObj, Sem.run]
end

/-- an operation that turns memory -/
theorem WL.act {P : Program} {n : Nat} {Q : Exit → Env → World → Prop} {ρ : Env} {w : World} {ops : Array Oper} {rest : List Oper} {d : Option Nat} {op : Op} {ty : TypeId} {pos : String} {aft : Array Edge} {g : Option (Nat × Bool)} {v : Value} {p : World → Prop}
    (hg : ρ.want ops g = true) (h : ∃ w', Step P op ty ρ w v w' ∧ p w') (k : ∀ w', p w' → WL P n ops rest Q (ρ.put d v) w') : WL P n ops (⟨d, op, ty, pos, aft, g⟩ :: rest) Q ρ w :=
  let ⟨_, h1, h2⟩ := h; WL.step hg h1 (k _ h2)
section
variable {P : Program} {ops : Array Oper} {ld mk : List Nat} {Q : Env → World → Prop} {i : Nat} {d : Option Nat} {op : Op} {ty : TypeId} {pos : String} {aft : Array Edge} {g : Option (Nat × Bool)}
  {rest : List Nat} {ρ : Env} {F X : Nat → Prop} {w0 : World} {Lp L : List Chunk} {Rp R : List (World → Prop)}
/-- the same, where the order is drawn: one chunk turns -/
theorem TW.act {v : Value} {c c' : Chunk} (j : Nat) (hj : L[j]? = some c) (hi : ops[i]? = some ⟨d, op, ty, pos, aft, g⟩) (hl : i ∈ ld) (hw : ρ.want ops g = true)
    (hL : Lp.Sublist (L.set j c')) (hR : ∀ r, r ∈ Rp → r ∈ R)
    (h : ∀ A w, Mem F X w0 (fl A :: L) R w → ∃ w', Step P op ty ρ w v w' ∧ Mem F X w0 ((fl A :: L).set (j + 1) c') R w' ∧ Mod c.foot w w')
    (k : TW P ops ld mk (Dm F X w0 Lp Rp) Q rest (ρ.put d v) (MemA F X w0 (L.set j c') R)) (hm : i ∉ mk := by decide) : TW P ops ld mk (Dm F X w0 Lp Rp) Q (i :: rest) ρ (MemA F X w0 L R) := by
  refine .loud (hm := hm) (fun u A w => u = v ∧ MemA F X w0 (L.set j c') R A w) hi hl hw (fun _ => (good_mem hL hR).and) (fun A w M => ?_) ?_
  · obtain ⟨w', h1, h2, h3⟩ := h A w M
    refine .inl ⟨v, w', h1, ⟨rfl, ?_⟩, fun b hb => ?_⟩
    · rwa [List.set_cons_succ] at h2
    · exact h3.block b ((Mem.chunk M 0 rfl).lt b hb) (Mem.disj_ne M (i := 0) (j := j + 1) rfl (by simpa using hj) (by omega) b hb)
  · rintro u ⟨A, w, rfl, hM⟩
    exact k.weaken (fun _ _ hs => hs.2) fun _ _ _ h1 h2 _ => ⟨h1.1, h2⟩
end
end Tp
