/- Maps whose keys are integers. -/
import Derived.Test.YtlehkjkpgmkbiaaTrCall
import Derived.MapKept
namespace Tp
open Go

/-- a map's block: its entries, keys and values, in the order in which they lie -/
def mapC (k : IntKind) (b : Nat) (kvs : List (Int × Value)) : Chunk :=
  ⟨(· = b), fun w => ∃ es ck, w.heap[b]? = some (.map es ck) ∧ es.toList.map (fun e => (e.key, e.val)) = kvs.map fun p => (Value.int k p.1, p.2)⟩
theorem mapC_ok {k : IntKind} {b : Nat} {kvs : List (Int × Value)} {w : World} {es : Array MapEntry} {ck : Nat} (h : w.heap[b]? = some (.map es ck)) (he : es.toList.map (fun e => (e.key, e.val)) = kvs.map fun p => (Value.int k p.1, p.2)) : (mapC k b kvs).Ok w :=
  ⟨fun _ e => by rw [show _ = b from e]; exact lt_of_blk h, fun _ h' => ⟨es, ck, (h' b rfl).trans h, he⟩⟩

def mfind (a : Int) : List (Int × Value) → Nat → Option (Nat × Value)
  | [], _ => none
  | p :: l, i => if a == p.1 then some (i, p.2) else mfind a l (i + 1)
theorem findNow_int {k : IntKind} {a : Int} : ∀ {l : List MapEntry} {kvs : List (Int × Value)} (i : Nat), l.map (fun e => (e.key, e.val)) = kvs.map (fun p => (Value.int k p.1, p.2)) →
    Instr.findNow (.int k) (.int k a) l i = some (mfind a kvs i)
  | [], [], _, _ => rfl
  | [], _ :: _, _, h => by simp at h
  | _ :: _, [], _, h => by simp at h
  | e :: l, p :: kvs, i, h => by
    simp only [List.map_cons, List.cons.injEq, Prod.mk.injEq] at h
    obtain ⟨⟨h1, h2⟩, h3⟩ := h
    simp only [Instr.findNow, h1, Instr.sameNow, if_pos, mfind, h2]
    by_cases e : a = p.1
    · simp [e]
    · have e' : (a == p.1) = false := by simp [e]
      simp [e', findNow_int (i + 1) h3]
theorem mfind_some {a : Int} {v : Value} {j : Nat} : ∀ {kvs : List (Int × Value)} {i : Nat}, mfind a kvs i = some (j, v) → i ≤ j ∧ kvs[j - i]? = some (a, v)
  | [], _, h => by cases h
  | p :: l, i, h => by
    simp only [mfind] at h
    split at h
    · rename_i e
      simp at h
      obtain ⟨rfl, rfl⟩ := h
      simp at e
      simp [e]
    · obtain ⟨h1, h2⟩ := mfind_some h
      refine ⟨by omega, ?_⟩
      rw [show j - i = (j - (i + 1)) + 1 by omega, List.getElem?_cons_succ]
      exact h2
theorem mfind_none {a : Int} : ∀ {kvs : List (Int × Value)} {i : Nat}, mfind a kvs i = none ↔ ∀ p, p ∈ kvs → p.1 ≠ a
  | [], _ => by simp [mfind]
  | p :: l, i => by
    simp only [mfind]
    by_cases e : a = p.1
    · simp [e]
    · simp only [beq_iff_eq, e, if_false, List.mem_cons, forall_eq_or_imp]
      rw [mfind_none (kvs := l)]
      exact ⟨fun h => ⟨fun h' => e h'.symm, h⟩, fun h => h.2⟩
def mset (a : Int) (v : Value) (kvs : List (Int × Value)) : List (Int × Value) :=
  match mfind a kvs 0 with
  | some (i, _) => kvs.set i (a, v)
  | none => kvs ++ [(a, v)]
def mdel (a : Int) (kvs : List (Int × Value)) : List (Int × Value) :=
  match mfind a kvs 0 with
  | some (i, _) => kvs.eraseIdx i
  | none => kvs

/-- the map's key and element types -/
structure MapT (P : Program) (t kt et : TypeId) (k : IntKind) (z : Value) : Prop where
  und : Und P t (.map kt et)
  key : Und P kt (.int k)
  zero : ∀ w, (zeroValue et).run P w = .ok z w

section
variable {P : Program} {ρ : Env} {F X : Nat → Prop} {w w0 : World} {L : List Chunk} {R : List (World → Prop)} {ty t kt et : TypeId} {k : IntKind} {z : Value} {b : Nat} {kvs : List (Int × Value)} {x ix y : Operand} {a : Int}

theorem Step.lookup {es : Array MapEntry} {ck : Nat} (ht : MapT P t kt et k z) (hx : ρ.ev x = .map (some b)) (hi : ρ.ev ix = .int k a) (hb : w.heap[b]? = some (.map es ck)) (he : es.toList.map (fun e => (e.key, e.val)) = kvs.map fun p => (Value.int k p.1, p.2)) :
    Step P (.lookup t x ix true) ty ρ w (.tuple #[((mfind a kvs 0).map (·.2)).getD z, .bool (mfind a kvs 0).isSome]) w := by
  intro d pos aft g
  left
  have h1 := MapKept.run_findKey (w := w) ht.key (findNow_int (a := a) 0 he)
  have h2 := MapKept.run_checkKey (w := w) (k := .int k a) ht.key (by simp [MapKept.IsKey]) es.isEmpty 9999
  simp only [execOp, Instr.lookup, hx, hi, Sem.run_bind, ht.und.run, Result.andThen_ok, MapKept.run_getObj_map hb, Sem.run_pure, h1, h2]
  cases hm : mfind a kvs 0 with
  | none => simp [ht.zero w]
  | some p => simp
theorem Mem.lookup (M : Mem F X w0 L R w) (i : Nat) (hL : L[i]? = some (mapC k b kvs)) (ht : MapT P t kt et k z) (hx : ρ.ev x = .map (some b)) (hi : ρ.ev ix = .int k a) :
    Step P (.lookup t x ix true) ty ρ w (.tuple #[((mfind a kvs 0).map (·.2)).getD z, .bool (mfind a kvs 0).isSome]) w := by
  obtain ⟨es, ck, h1, h2⟩ := (M.chunk i hL).inv
  exact Step.lookup ht hx hi h1 h2
theorem Mem.lenMap (M : Mem F X w0 L R w) (i : Nat) (hL : L[i]? = some (mapC k b kvs)) (ht : MapT P t kt et k z) (hx : ρ.ev x = .map (some b)) :
    Step P (.call { callee := .builtin .len, args := #[x], argTypes := #[t] }) ty ρ w (.int .i64 kvs.length) w := by
  obtain ⟨es, ck, h1, h2⟩ := (M.chunk i hL).inv
  intro d pos aft g
  left
  have h3 := congrArg List.length h2
  simp only [List.length_map, Array.length_toList] at h3
  simp [execOp, resolve, invoke, builtin, hx, Builtin.len_, ht.und.run, goInt, MapKept.run_getObj_map h1, h3]

theorem eraseIdx_map' {α β : Type} (f : α → β) : ∀ (l : List α) (i : Nat), (l.eraseIdx i).map f = (l.map f).eraseIdx i
  | [], _ => rfl
  | _ :: _, 0 => rfl
  | x :: l, i + 1 => by simp [eraseIdx_map' f l i]
theorem pairs_set {l : List MapEntry} {kvs : List (Int × Value)} (h : l.map (fun e => (e.key, e.val)) = kvs.map fun p => (Value.int k p.1, p.2)) (i : Nat) {a : Int} {v : Value} {e : MapEntry} (he : (e.key, e.val) = (Value.int k a, v)) :
    (l.set i e).map (fun e => (e.key, e.val)) = (kvs.set i (a, v)).map fun p => (Value.int k p.1, p.2) := by
  rw [List.map_set, List.map_set, h, he]

theorem Mem.mapSet {v : Value} (M : Mem F X w0 L R w) (i : Nat) (hL : L[i]? = some (mapC k b kvs)) (ht : MapT P t kt et k z) (hx : ρ.ev x = .map (some b)) (hi : ρ.ev ix = .int k a) (hy : ρ.ev y = v) :
    ∃ w', Step P (.mapUpdate t x ix y) ty ρ w undef w' ∧ Mem F X w0 (L.set i (mapC k b (mset a v kvs))) R w' ∧ Mod (mapC k b kvs).foot w w' := by
  obtain ⟨es, ck, h1, h2⟩ := (M.chunk i hL).inv
  have h3 := MapKept.run_findKey (w := w) ht.key (findNow_int (a := a) 0 h2)
  have h4 := MapKept.run_checkKey (w := w) (k := .int k a) ht.key (by simp [MapKept.IsKey]) false 9999
  have lt := lt_of_blk h1
  cases hm : mfind a kvs 0 with
  | none =>
    refine ⟨World.blkSet w b (.map (es.push ⟨.int k a, v, ck⟩) (ck + 1)), ?_, ?_, blkSet_mod w b _⟩
    · intro d pos aft g
      right
      simp [execOp, Instr.mapUpdate, hx, hi, hy, ht.und.run, MapKept.run_getObj_map h1, h3, h4, hm, MapKept.run_setObj_map _ h1, World.blkSet]
    · refine M.turn i hL (blkSet_mod w b _) (mapC_ok (blkSet_at _ lt) ?_) fun _ h => .inl h
      simp only [mset, hm, Array.toList_push, List.map_append, List.map_cons, List.map_nil, h2]
  | some p =>
    obtain ⟨j, u⟩ := p
    obtain ⟨_, h5⟩ := mfind_some hm
    rw [Nat.sub_zero] at h5
    have h6 : (es.toList.map (fun e => (e.key, e.val)))[j]? = some (Value.int k a, u) := by rw [h2, List.getElem?_map, h5]; rfl
    obtain ⟨e, he, hke⟩ : ∃ e, es[j]? = some e ∧ (e.key, e.val) = (Value.int k a, u) := by
      rw [List.getElem?_map] at h6
      cases he : es.toList[j]? with
      | none => rw [he] at h6; cases h6
      | some e => rw [he] at h6; exact ⟨e, by simpa using he, by simpa using h6⟩
    refine ⟨World.blkSet w b (.map (es.modify j fun e => { e with key := .int k a, val := v }) ck), ?_, ?_, blkSet_mod w b _⟩
    · intro d pos aft g
      right
      simp at hke
      have hk : (Instr.keyThatStays (Value.int k a) (Value.int k a)).run P w = .ok (Value.int k a) w := by simp [Instr.keyThatStays, Instr.sameBits]
      simp [execOp, Instr.mapUpdate, hx, hi, hy, ht.und.run, MapKept.run_getObj_map h1, h3, h4, hm, he, hke.1, hk, MapKept.run_setObj_map _ h1, World.blkSet]
    · refine M.turn i hL (blkSet_mod w b _) (mapC_ok (blkSet_at _ lt) ?_) fun _ h => .inl h
      simp only [mset, hm]
      rw [← pairs_set (k := k) h2 j (e := { e with key := .int k a, val := v }) (a := a) (v := v) rfl]
      congr 1
      apply List.ext_getElem?
      intro n
      rw [Array.getElem?_toList, Array.getElem?_modify, List.getElem?_set]
      by_cases hn : j = n
      · subst hn
        have := (Array.getElem?_eq_some_iff.1 he).1
        have hbe : es[j] = e := (Array.getElem?_eq_some_iff.1 he).2
        simp [this, hbe]
      · simp [hn]
theorem Mem.mapDel {ts : TypeId} (M : Mem F X w0 L R w) (i : Nat) (hL : L[i]? = some (mapC k b kvs)) (ht : MapT P t kt et k z) (hx : ρ.ev x = .map (some b)) (hi : ρ.ev ix = .int k a) :
    ∃ w', Step P (.call { callee := .builtin .delete, args := #[x, ix], argTypes := #[t, ts] }) ty ρ w undef w' ∧ Mem F X w0 (L.set i (mapC k b (mdel a kvs))) R w' ∧ Mod (mapC k b kvs).foot w w' := by
  obtain ⟨es, ck, h1, h2⟩ := (M.chunk i hL).inv
  have h3 := MapKept.run_findKey (w := w) ht.key (findNow_int (a := a) 0 h2)
  have h4 := MapKept.run_checkKey (w := w) (k := .int k a) ht.key (by simp [MapKept.IsKey]) es.isEmpty 9999
  have lt := lt_of_blk h1
  cases hm : mfind a kvs 0 with
  | none =>
    refine ⟨World.blkSet w b (.map es ck), ?_, ?_, blkSet_mod w b _⟩
    · intro d pos aft g
      left
      simp [execOp, resolve, invoke, builtin, Builtin.delete_, hx, hi, ht.und.run, MapKept.run_getObj_map h1, h3, h4, hm, MapKept.run_setObj_map _ h1, World.blkSet, undef]
    · refine M.turn i hL (blkSet_mod w b _) (mapC_ok (blkSet_at _ lt) ?_) fun _ h => .inl h
      simp only [mdel, hm, h2]
  | some p =>
    obtain ⟨j, u⟩ := p
    obtain ⟨_, h5⟩ := mfind_some hm
    rw [Nat.sub_zero] at h5
    have hj : j < es.size := by
      have h6 := congrArg List.length h2
      simp only [List.length_map, Array.length_toList] at h6
      have := (List.getElem?_eq_some_iff.1 h5).1
      omega
    refine ⟨World.blkSet w b (.map (es.eraseIdxIfInBounds j) ck), ?_, ?_, blkSet_mod w b _⟩
    · intro d pos aft g
      left
      simp [execOp, resolve, invoke, builtin, Builtin.delete_, hx, hi, ht.und.run, MapKept.run_getObj_map h1, h3, h4, hm, MapKept.run_setObj_map _ h1, World.blkSet, undef]
    · refine M.turn i hL (blkSet_mod w b _) (mapC_ok (blkSet_at _ lt) ?_) fun _ h => .inl h
      simp only [mdel, hm]
      unfold Array.eraseIdxIfInBounds
      rw [dif_pos hj, Array.toList_eraseIdx, eraseIdx_map', h2, ← eraseIdx_map']
theorem Step.makeMap : Step P (.makeMap t none) ty ρ w (.map (some w.heap.size)) (w.alloc (.map #[] 0)) := by
  intro d pos aft g
  left
  simp [execOp, Instr.makeMap, newObj, Sem.run]
theorem Mem.mapNew (M : Mem F X w0 L R w) (i : Nat) (hL : L[i]? = some (Tp.blk b (.map #[] 0))) : Mem F X w0 (L.set i (mapC k b [])) R w := by
  have hb := M.blk i hL
  exact M.turn i hL (Mod.refl _ _) (mapC_ok hb (by simp)) fun _ h => .inl h
theorem Step.mapNil {t' : TypeId} (ht : MapT P t kt et k z) (hx : ρ.ev x = .map (some b)) (hy : ρ.ev y = .map none) : Step P (.binOp .eql t x y t') ty ρ w (.bool false) w := by
  intro d pos aft g
  left
  have h1 : (eqGuard .eql t x y (.map (some b)) (.map none)).run P w = .ok () w := by simp [eqGuard]
  have h2 := run_eql_map_nil (P := P) w t kt et (some b) ht.und
  simp only [execOp, hx, hy, Sem.run_bind, h1, Result.andThen_ok, h2, Sem.run_pure]
  rfl
end

/-- an operation that turns memory -/
theorem WL.act {P : Program} {n : Nat} {Q : Exit → Env → World → Prop} {ρ : Env} {w : World} {ops : Array Oper} {rest : List Oper} {d : Option Nat} {op : Op} {ty : TypeId} {pos : String} {aft : Array Edge} {g : Option (Nat × Bool)} {v : Value} {p : World → Prop}
    (hg : ρ.want ops g = true) (h : ∃ w', Step P op ty ρ w v w' ∧ p w') (k : ∀ w', p w' → WL P n ops rest Q (ρ.put d v) w') : WL P n ops (⟨d, op, ty, pos, aft, g⟩ :: rest) Q ρ w :=
  let ⟨_, h1, h2⟩ := h; WL.step hg h1 (k _ h2)
section
variable {P : Program} {ops : Array Oper} {ld mk : List Nat} {Q : Env → World → Prop} {i : Nat} {d : Option Nat} {op : Op} {ty : TypeId} {pos : String} {aft : Array Edge} {g : Option (Nat × Bool)}
  {rest : List Nat} {ρ : Env} {F X : Nat → Prop} {w0 : World} {Lp L : List Chunk} {Rp R : List (World → Prop)}
/-- the same, where the order is drawn: one chunk turns -/
theorem TW.act {v : Value} {c c' : Chunk} (j : Nat) (hj : L[j]? = some c) (hi : ops[i]? = some ⟨d, op, ty, pos, aft, g⟩) (hl : i ∈ ld) (hw : ρ.want ops g = true)
    (hL : Lp.Sublist (L.set j c')) (hR : ∀ r, r ∈ Rp → r ∈ R)
    (h : ∀ A w, Mem F X w0 (fl A :: L) R w → ∃ w', Step P op ty ρ w v w' ∧ Mem F X w0 ((fl A :: L).set (j + 1) c') R w' ∧ Mod c.foot w w')
    (k : TW P ops ld mk (Dm F X w0 Lp Rp) Q rest (ρ.put d v) (MemA F X w0 (L.set j c') R)) : TW P ops ld mk (Dm F X w0 Lp Rp) Q (i :: rest) ρ (MemA F X w0 L R) := by
  refine .loud (fun u A w => u = v ∧ MemA F X w0 (L.set j c') R A w) hi hl hw (fun _ => (good_mem hL hR).and) (fun A w M => ?_) ?_
  · obtain ⟨w', h1, h2, h3⟩ := h A w M
    refine .inl ⟨v, w', h1, ⟨rfl, ?_⟩, fun b hb => ?_⟩
    · rwa [List.set_cons_succ] at h2
    · exact h3.block b ((Mem.chunk M 0 rfl).lt b hb) (Mem.disj_ne M (i := 0) (j := j + 1) rfl (by simpa using hj) (by omega) b hb)
  · rintro u ⟨A, w, rfl, hM⟩
    exact k.weaken fun _ _ hs => hs.2
end
end Tp
