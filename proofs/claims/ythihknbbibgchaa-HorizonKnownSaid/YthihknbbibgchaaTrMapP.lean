/- Maps whose keys are pairs of numbers; ranges over them. -/
import Derived.Test.YthihknbbibgchaaTrMap
import Derived.Test.YthihknbbibgchaaTrAny3
import Derived.Laws.IdiomRangeMap
set_option linter.all false
namespace Tp
open Go
structure PinH where
  sort : Int
  id : Int
  epoch : Int
deriving DecidableEq, Inhabited
def whoV (s i : Int) : Value := .agg #[.int .u8 s, .int .u64 i]
def pinK (p : PinH) : Value × Value := (whoV p.sort p.id, .int .u64 p.epoch)
structure MapIs (es : Array MapEntry) (ck : Nat) (ps : List PinH) : Prop where
  pairs : es.toList.map (fun e => (e.key, e.val)) = ps.map pinK
  old : ∀ x, x ∈ es.toList → x.born < ck
  nd : (es.toList.map (·.born)).Nodup
def mapP (b : Nat) (ps : List PinH) : Chunk := ⟨(· = b), fun w => ∃ es ck, w.heap[b]? = some (.map es ck) ∧ MapIs es ck ps⟩
theorem mapP_ok {b : Nat} {ps : List PinH} {w : World} {es : Array MapEntry} {ck : Nat} (h : w.heap[b]? = some (.map es ck)) (he : MapIs es ck ps) : (mapP b ps).Ok w :=
  ⟨fun _ e => by rw [show _ = b from e]; exact lt_of_blk h, fun _ h' => ⟨es, ck, (h' b rfl).trans h, he⟩⟩
structure MapTP (P : Program) (t kt et : TypeId) : Prop where
  und : Und P t (.map kt et)
  key : ∃ fs, Und P kt (.struct fs)
  eq : ∀ s i s' i' w, (Op.equal kt (whoV s i) (whoV s' i')).run P w = .ok ((s == s') && ((i == i') && true)) w
  chk : ∀ s i em w, (Instr.checkKey em 10000 kt (whoV s i)).run P w = .ok () w
  zero : ∀ w, (zeroValue et).run P w = .ok (.int .u64 0) w
def isP (s i : Int) (p : PinH) : Bool := p.sort == s && p.id == i
def pfind (s i : Int) : List PinH → Nat → Option (Nat × Value)
  | [], _ => none
  | p :: l, k => if isP s i p then some (k, .int .u64 p.epoch) else pfind s i l (k + 1)
theorem isP_eq (s i : Int) (p : PinH) : ((s == p.sort) && ((i == p.id) && true)) = isP s i p := by
  rw [Bool.eq_iff_iff]; simp [isP]
  exact ⟨fun ⟨a, b⟩ => ⟨a.symm, b.symm⟩, fun ⟨a, b⟩ => ⟨a.symm, b.symm⟩⟩
theorem isP_iff {s i : Int} {p : PinH} : isP s i p = true ↔ p.sort = s ∧ p.id = i := by simp [isP]
theorem pfind_some {s i : Int} {v : Value} {j : Nat} : ∀ {ps : List PinH} {k : Nat}, pfind s i ps k = some (j, v) → k ≤ j ∧ ∃ p, ps[j - k]? = some p ∧ isP s i p = true ∧ v = .int .u64 p.epoch
  | [], _, h => by cases h
  | p :: l, k, h => by
    simp only [pfind] at h
    split at h
    · rename_i e
      simp at h
      obtain ⟨rfl, rfl⟩ := h
      exact ⟨Nat.le_refl _, p, by simp, e, rfl⟩
    · obtain ⟨h1, q, h2, h3⟩ := pfind_some h
      refine ⟨by omega, q, ?_, h3⟩
      rw [show j - k = (j - (k + 1)) + 1 by omega, List.getElem?_cons_succ]
      exact h2
theorem pfind_none {s i : Int} : ∀ {ps : List PinH} {k : Nat}, pfind s i ps k = none ↔ ∀ p, p ∈ ps → isP s i p = false
  | [], _ => by simp [pfind]
  | p :: l, k => by
    simp only [pfind]
    cases e : isP s i p with
    | true => simp [e]
    | false => simp [e, pfind_none (ps := l)]
theorem pfind_first {s i : Int} {v : Value} {j : Nat} : ∀ {ps : List PinH} {k : Nat}, pfind s i ps k = some (j, v) → ps.findIdx? (isP s i) = some (j - k)
  | [], _, h => by cases h
  | p :: l, k, h => by
    simp only [pfind] at h
    split at h
    · rename_i e
      simp at h
      obtain ⟨rfl, rfl⟩ := h
      simp [List.findIdx?_cons, e]
    · rename_i e
      have h1 := (pfind_some h).1
      have h2 := pfind_first h
      rw [List.findIdx?_cons, if_neg e, h2]
      simp; omega
/-- what is held at a pair -/
def heldV (s i : Int) (ps : List PinH) : Int × Bool := match ps.find? (isP s i) with
  | some p => (p.epoch, true)
  | none => (0, false)
def setP (p : PinH) (ps : List PinH) : List PinH := match ps.findIdx? (isP p.sort p.id) with
  | some k => ps.set k p
  | none => ps ++ [p]
def delP (s i : Int) (ps : List PinH) : List PinH := match ps.findIdx? (isP s i) with
  | some k => ps.eraseIdx k
  | none => ps
theorem heldV_pfind (s i : Int) (ps : List PinH) (k : Nat) : (.tuple #[((pfind s i ps k).map (·.2)).getD (.int .u64 0), .bool (pfind s i ps k).isSome] : Value) = .tuple #[.int .u64 (heldV s i ps).1, .bool (heldV s i ps).2] := by
  unfold heldV
  induction ps generalizing k with
  | nil => rfl
  | cons p l ih =>
    rw [pfind, List.find?_cons]
    cases e : isP s i p with
    | true => rfl
    | false => simpa using ih (k + 1)
section
variable {P : Program} {ρ : Env} {F X : Nat → Prop} {w w0 : World} {L : List Chunk} {R : List (World → Prop)} {ty t kt et : TypeId} {b : Nat} {ps : List PinH} {x ix y : Operand} {s i : Int}
theorem run_findP (ht : MapTP P t kt et) (w : World) : ∀ {l : List MapEntry} {ps : List PinH}, l.map (fun e => (e.key, e.val)) = ps.map pinK → (Instr.findKey kt (whoV s i) l).run P w = .ok (pfind s i ps 0) w := by
  have ask : ∀ {l : List MapEntry} {ps : List PinH} (k : Nat), l.map (fun e => (e.key, e.val)) = ps.map pinK → (Instr.findAsking kt (whoV s i) l k).run P w = .ok (pfind s i ps k) w := by
    intro l
    induction l with
    | nil =>
      intro ps k h
      cases ps with
      | nil => rfl
      | cons p ps => simp at h
    | cons e l ih =>
      intro ps k h
      cases ps with
      | nil => simp at h
      | cons p ps =>
        simp only [List.map_cons, List.cons.injEq, pinK, Prod.mk.injEq] at h
        obtain ⟨⟨h1, h2⟩, h3⟩ := h
        simp only [Instr.findAsking, Sem.run_bind, h1, ht.eq, Result.andThen_ok, isP_eq, pfind]
        cases e : isP s i p with
        | true => simp [h2]
        | false => simpa using ih (k + 1) h3
  intro l ps h
  obtain ⟨fs, hk⟩ := ht.key
  simp only [Instr.findKey, Sem.run_bind, hk.run, Result.andThen_ok]
  cases l with
  | nil =>
    cases ps with
    | nil => rfl
    | cons p ps => simp at h
  | cons e l =>
    have : Instr.findNow (.struct fs) (whoV s i) (e :: l) 0 = none := by simp [Instr.findNow, Instr.sameNow, whoV]
    rw [this]
    exact ask 0 h
theorem Mem.lookupP (M : Mem F X w0 L R w) (j : Nat) (hL : L[j]? = some (mapP b ps)) (ht : MapTP P t kt et) (hx : ρ.ev x = .map (some b)) (hi : ρ.ev ix = whoV s i) :
    Step P (.lookup t x ix true) ty ρ w (.tuple #[.int .u64 (heldV s i ps).1, .bool (heldV s i ps).2]) w := by
  obtain ⟨es, ck, h1, h2⟩ := (M.chunk j hL).inv
  rw [← heldV_pfind s i ps 0]
  intro d pos aft g
  left
  have h3 := run_findP (s := s) (i := i) ht w h2.pairs
  have h4 := ht.chk s i es.isEmpty w
  simp only [execOp, Instr.lookup, hx, hi, Sem.run_bind, ht.und.run, Result.andThen_ok, MapKept.run_getObj_map h1, Sem.run_pure, h3, h4]
  cases hm : pfind s i ps 0 with
  | none => simp [ht.zero w]
  | some p => simp
theorem MapIs.push {es : Array MapEntry} {ck : Nat} (h : MapIs es ck ps) (p : PinH) : MapIs (es.push ⟨whoV p.sort p.id, .int .u64 p.epoch, ck⟩) (ck + 1) (ps ++ [p]) := by
  refine ⟨?_, ?_, ?_⟩
  · simp [h.pairs, pinK]
  · intro x hx
    simp only [Array.toList_push, List.mem_append, List.mem_singleton] at hx
    rcases hx with hx | rfl
    · exact Nat.lt_succ_of_lt (h.old x hx)
    · exact Nat.lt_succ_self _
  · simp only [Array.toList_push, List.map_append, List.map_cons, List.map_nil]
    refine List.nodup_append.2 ⟨h.nd, by simp, ?_⟩
    intro a ha c hc
    simp only [List.mem_singleton] at hc
    subst hc
    obtain ⟨x, hx, rfl⟩ := List.mem_map.1 ha
    exact Nat.ne_of_lt (h.old x hx)
theorem MapIs.modify {es : Array MapEntry} {ck : Nat} (h : MapIs es ck ps) {k : Nat} {p q : PinH} (hk : ps[k]? = some q) (hq : isP p.sort p.id q = true) :
    MapIs (es.modify k fun e => { e with key := whoV p.sort p.id, val := .int .u64 p.epoch }) ck (ps.set k p) := by
  have hb : (es.modify k fun e => { e with key := whoV p.sort p.id, val := .int .u64 p.epoch }).toList = es.toList.modify k fun e => { e with key := whoV p.sort p.id, val := .int .u64 p.epoch } := by
    apply List.ext_getElem?
    intro n
    rw [Array.getElem?_toList, Array.getElem?_modify, List.getElem?_modify, Array.getElem?_toList]
    by_cases e : k = n <;> simp [e]
  have hborn : (es.modify k fun e => { e with key := whoV p.sort p.id, val := .int .u64 p.epoch }).toList.map (·.born) = es.toList.map (·.born) := by
    rw [hb]
    apply List.ext_getElem?
    intro n
    rw [List.getElem?_map, List.getElem?_map, List.getElem?_modify]
    by_cases e : k = n
    · subst e; cases es.toList[k]? <;> simp
    · simp [e]
  refine ⟨?_, ?_, by rw [hborn]; exact h.nd⟩
  · rw [hb, List.map_set]
    apply List.ext_getElem?
    intro n
    rw [List.getElem?_map, List.getElem?_modify, List.getElem?_set]
    by_cases e : k = n
    · subst e
      have hl := (List.getElem?_eq_some_iff.1 hk).1
      have h3 := congrArg List.length h.pairs
      simp only [List.length_map] at h3
      have : es.toList[k]? = some es.toList[k] := List.getElem?_eq_getElem (by omega)
      rw [this]
      simp [pinK, hl]
    · have := congrArg (fun l => l[n]?) h.pairs
      simp only [List.getElem?_map] at this
      simp only [e, if_false, List.getElem?_map]
      rw [← this]
      cases es.toList[n]? <;> simp
  · intro x hx
    have : x.born ∈ (es.modify k fun e => { e with key := whoV p.sort p.id, val := .int .u64 p.epoch }).toList.map (·.born) := List.mem_map.2 ⟨x, hx, rfl⟩
    rw [hborn] at this
    obtain ⟨z, hz, e⟩ := List.mem_map.1 this
    rw [← e]; exact h.old z hz
theorem MapIs.erase {es : Array MapEntry} {ck : Nat} (h : MapIs es ck ps) (k : Nat) : MapIs (es.eraseIdxIfInBounds k) ck (ps.eraseIdx k) := by
  have hb : (es.eraseIdxIfInBounds k).toList = es.toList.eraseIdx k := by
    unfold Array.eraseIdxIfInBounds
    split
    · simp
    · rename_i hk
      rw [List.eraseIdx_of_length_le (by simpa using hk)]
  have hs : (es.toList.eraseIdx k).Sublist es.toList := List.eraseIdx_sublist _ _
  refine ⟨?_, ?_, ?_⟩
  · rw [hb, eraseIdx_map', h.pairs, ← eraseIdx_map']
  · rw [hb]; exact fun x hx => h.old x (hs.subset hx)
  · rw [hb]; exact (hs.map _).nodup h.nd
theorem setP_pfind (p : PinH) (ps : List PinH) : setP p ps = match pfind p.sort p.id ps 0 with
    | some (k, _) => ps.set k p
    | none => ps ++ [p] := by
  unfold setP
  cases h : pfind p.sort p.id ps 0 with
  | none =>
    have : ps.findIdx? (isP p.sort p.id) = none := by
      rw [List.findIdx?_eq_none_iff]; intro x hx; rw [pfind_none.1 h x hx]
    rw [this]
  | some q => obtain ⟨k, v⟩ := q; rw [pfind_first h]; rfl
theorem delP_pfind (s i : Int) (ps : List PinH) : delP s i ps = match pfind s i ps 0 with
    | some (k, _) => ps.eraseIdx k
    | none => ps := by
  unfold delP
  cases h : pfind s i ps 0 with
  | none =>
    have : ps.findIdx? (isP s i) = none := by
      rw [List.findIdx?_eq_none_iff]; intro x hx; rw [pfind_none.1 h x hx]
    rw [this]
  | some q => obtain ⟨k, v⟩ := q; rw [pfind_first h]; rfl
theorem sameBits_who (s i : Int) : Instr.sameBits 10000 (whoV s i) (whoV s i) = true := by
  simp [Instr.sameBits, whoV]
theorem Mem.setP {p : PinH} (M : Mem F X w0 L R w) (j : Nat) (hL : L[j]? = some (mapP b ps)) (ht : MapTP P t kt et) (hx : ρ.ev x = .map (some b)) (hi : ρ.ev ix = whoV p.sort p.id) (hy : ρ.ev y = .int .u64 p.epoch) :
    ∃ w', Step P (.mapUpdate t x ix y) ty ρ w undef w' ∧ Mem F X w0 (L.set j (mapP b (setP p ps))) R w' ∧ Mod (mapP b ps).foot w w' := by
  obtain ⟨es, ck, h1, h2⟩ := (M.chunk j hL).inv
  have h3 := run_findP (s := p.sort) (i := p.id) ht w h2.pairs
  have h4 := ht.chk p.sort p.id false w
  have lt := lt_of_blk h1
  rw [setP_pfind]
  cases hm : pfind p.sort p.id ps 0 with
  | none =>
    refine ⟨World.blkSet w b (.map (es.push ⟨whoV p.sort p.id, .int .u64 p.epoch, ck⟩) (ck + 1)), ?_, ?_, blkSet_mod w b _⟩
    · intro d pos aft g
      right
      simp [execOp, Instr.mapUpdate, hx, hi, hy, ht.und.run, MapKept.run_getObj_map h1, h3, h4, hm, MapKept.run_setObj_map _ h1, World.blkSet]
    · exact M.turn j hL (blkSet_mod w b _) (mapP_ok (blkSet_at _ lt) (h2.push p)) fun _ h => .inl h
  | some q =>
    obtain ⟨k, u⟩ := q
    obtain ⟨_, q, h5, h6, h7⟩ := pfind_some hm
    rw [Nat.sub_zero] at h5
    have h8 : (es.toList.map (fun e => (e.key, e.val)))[k]? = some (pinK q) := by rw [h2.pairs, List.getElem?_map, h5]; rfl
    obtain ⟨e, he, hke⟩ : ∃ e, es[k]? = some e ∧ e.key = whoV p.sort p.id := by
      rw [List.getElem?_map] at h8
      cases he : es.toList[k]? with
      | none => rw [he] at h8; cases h8
      | some e =>
        rw [he] at h8
        refine ⟨e, by simpa using he, ?_⟩
        have h9 : (e.key, e.val) = pinK q := by simpa using h8
        have h10 : e.key = whoV q.sort q.id := congrArg Prod.fst h9
        obtain ⟨a1, a2⟩ := isP_iff.1 h6
        rw [h10, a1, a2]
    refine ⟨World.blkSet w b (.map (es.modify k fun e => { e with key := whoV p.sort p.id, val := .int .u64 p.epoch }) ck), ?_, ?_, blkSet_mod w b _⟩
    · intro d pos aft g
      right
      have hk : (Instr.keyThatStays (whoV p.sort p.id) (whoV p.sort p.id)).run P w = .ok (whoV p.sort p.id) w := by simp [Instr.keyThatStays, sameBits_who]
      simp [execOp, Instr.mapUpdate, hx, hi, hy, ht.und.run, MapKept.run_getObj_map h1, h3, h4, hm, he, hke, hk, MapKept.run_setObj_map _ h1, World.blkSet]
    · exact M.turn j hL (blkSet_mod w b _) (mapP_ok (blkSet_at _ lt) (h2.modify h5 h6)) fun _ h => .inl h
theorem Mem.delP {ts : TypeId} (M : Mem F X w0 L R w) (j : Nat) (hL : L[j]? = some (mapP b ps)) (ht : MapTP P t kt et) (hx : ρ.ev x = .map (some b)) (hi : ρ.ev ix = whoV s i) :
    ∃ w', Step P (.call { callee := .builtin .delete, args := #[x, ix], argTypes := #[t, ts] }) ty ρ w undef w' ∧ Mem F X w0 (L.set j (mapP b (delP s i ps))) R w' ∧ Mod (mapP b ps).foot w w' := by
  obtain ⟨es, ck, h1, h2⟩ := (M.chunk j hL).inv
  have h3 := run_findP (s := s) (i := i) ht w h2.pairs
  have h4 := ht.chk s i es.isEmpty w
  have lt := lt_of_blk h1
  rw [delP_pfind]
  cases hm : pfind s i ps 0 with
  | none =>
    refine ⟨World.blkSet w b (.map es ck), ?_, ?_, blkSet_mod w b _⟩
    · intro d pos aft g
      left
      simp [execOp, resolve, invoke, builtin, Builtin.delete_, hx, hi, ht.und.run, MapKept.run_getObj_map h1, h3, h4, hm, MapKept.run_setObj_map _ h1, World.blkSet, undef]
    · exact M.turn j hL (blkSet_mod w b _) (mapP_ok (blkSet_at _ lt) h2) fun _ h => .inl h
  | some q =>
    obtain ⟨k, u⟩ := q
    refine ⟨World.blkSet w b (.map (es.eraseIdxIfInBounds k) ck), ?_, ?_, blkSet_mod w b _⟩
    · intro d pos aft g
      left
      simp [execOp, resolve, invoke, builtin, Builtin.delete_, hx, hi, ht.und.run, MapKept.run_getObj_map h1, h3, h4, hm, MapKept.run_setObj_map _ h1, World.blkSet, undef]
    · exact M.turn j hL (blkSet_mod w b _) (mapP_ok (blkSet_at _ lt) (h2.erase k)) fun _ h => .inl h
theorem Mem.newP (M : Mem F X w0 L R w) (j : Nat) (hL : L[j]? = some (Tp.blk b (.map #[] 0))) : Mem F X w0 (L.set j (mapP b [])) R w := by
  have hb := M.blk j hL
  exact M.turn j hL (Mod.refl _ _) (mapP_ok hb ⟨rfl, fun _ h => (by cases h), by simp⟩) fun _ h => .inl h
theorem Mem.openP (M : Mem F X w0 L R w) (j : Nat) (hL : L[j]? = some (mapP b ps)) : ∃ es ck, MapIs es ck ps ∧ Mem F X w0 (L.set j (Tp.blk b (.map es ck))) R w := by
  obtain ⟨es, ck, h1, h2⟩ := (M.chunk j hL).inv
  exact ⟨es, ck, h2, M.turn j hL (Mod.refl _ _) (blk_ok h1) fun _ h => .inl h⟩
theorem Mem.shutP {es : Array MapEntry} {ck : Nat} (M : Mem F X w0 L R w) (j : Nat) (hL : L[j]? = some (Tp.blk b (.map es ck))) (h : MapIs es ck ps) : Mem F X w0 (L.set j (mapP b ps)) R w :=
  M.turn j hL (Mod.refl _ _) (mapP_ok (M.blk j hL) h) fun _ h => .inl h
/-! ### A range -/
/-- what was handed out so far: these entries, in this order -/
def Seen (es : Array MapEntry) (seen : Array Nat) (done : List PinH) : Prop :=
  ∃ ds rest : List MapEntry, (ds ++ rest).Perm es.toList ∧ seen.toList = ds.map (·.born) ∧ ds.map (fun e => (e.key, e.val)) = done.map pinK
theorem Seen.start (es : Array MapEntry) : Seen es #[] [] := ⟨[], es.toList, .refl _, rfl, rfl⟩
def unK : Value × Value → PinH
  | (.agg #[.int _ s, .int _ i], .int _ e) => ⟨s, i, e⟩
  | _ => default
theorem unK_pinK (l : List PinH) : (l.map pinK).map unK = l := by
  rw [List.map_map]
  have : unK ∘ pinK = id := funext fun p => rfl
  rw [this, List.map_id]
theorem perm_of_pairs {ds : List MapEntry} {es : Array MapEntry} {ck : Nat} {done : List PinH} (h : MapIs es ck ps) (hp : ds.Perm es.toList) (hd : ds.map (fun e => (e.key, e.val)) = done.map pinK) : done.Perm ps := by
  have h1 : (done.map pinK).Perm (ps.map pinK) := by rw [← hd, ← h.pairs]; exact hp.map _
  have h2 := h1.map unK
  rwa [unK_pinK, unK_pinK] at h2
theorem seen_left {es : Array MapEntry} {ck : Nat} {seen : Array Nat} {ds rest : List MapEntry} (h : MapIs es ck ps) (hp : (ds ++ rest).Perm es.toList) (hs : seen.toList = ds.map (·.born)) :
    ∀ e, e ∈ (es.filter fun e => !seen.contains e.born).toList ↔ e ∈ rest := by
  intro e
  have hnd : ((ds ++ rest).map (·.born)).Nodup := (hp.map _).nodup_iff.2 h.nd
  rw [List.map_append, List.nodup_append] at hnd
  obtain ⟨_, _, h3⟩ := hnd
  rw [Array.toList_filter, List.mem_filter, ← hp.mem_iff, List.mem_append]
  have hc : seen.contains e.born = true ↔ e.born ∈ ds.map (·.born) := by rw [← hs]; simp
  constructor
  · rintro ⟨h1 | h1, h2⟩
    · have := hc.2 (List.mem_map.2 ⟨e, h1, rfl⟩); rw [this] at h2; cases h2
    · exact h1
  · intro h1
    refine ⟨.inr h1, ?_⟩
    cases hb : seen.contains e.born with
    | false => rfl
    | true => exact absurd rfl (h3 _ (hc.1 hb) _ (List.mem_map.2 ⟨e, h1, rfl⟩))
theorem Mem.rangeP {es : Array MapEntry} {ck : Nat} (M : Mem F X w0 L R w) (j : Nat) (hL : L[j]? = some (Tp.blk b (.map es ck))) (ht : MapTP P t kt et) (hx : ρ.ev x = .map (some b)) :
    ∃ r w', w0.heap.size ≤ r ∧ Step P (.range t x) ty ρ w (.pointer (some ⟨r, 0, none⟩)) w' ∧ Mem F X w0 (Tp.blk r (.mapIter (some b) ck #[] ck) :: L) R w' := by
  refine ⟨w.heap.size, w.alloc (.mapIter (some b) ck #[] ck), M.mod.size, fun d pos aft g => ?_, M.push _⟩
  left
  simp only [execOp, hx, Sem.run_bind, run_range_map w t kt et b es ck ht.und (M.blk j hL), Result.andThen_ok, Sem.run_pure]
theorem Seen.perm {es : Array MapEntry} {ck : Nat} {seen : Array Nat} {done : List PinH} (h : MapIs es ck ps) (hs : Seen es seen done) (he : (es.filter fun e => !seen.contains e.born).size = 0) : done.Perm ps := by
  obtain ⟨ds, rest, h1, h2, h3⟩ := hs
  have hr : rest = [] := by
    cases rest with
    | nil => rfl
    | cons e rest =>
      have := (seen_left h h1 h2 e).2 (List.mem_cons_self ..)
      rw [Array.eq_empty_of_size_eq_zero he] at this
      cases this
  subst hr
  rw [List.append_nil] at h1
  exact perm_of_pairs h h1 h3
theorem Seen.step {es : Array MapEntry} {ck : Nat} {seen : Array Nat} {done : List PinH} {e : MapEntry} (h : MapIs es ck ps) (hs : Seen es seen done) (he : e ∈ (es.filter fun e => !seen.contains e.born).toList) :
    ∃ p, (e.key, e.val) = pinK p ∧ e ∈ es.toList ∧ p ∈ ps ∧ Seen es (seen.push e.born) (done ++ [p]) := by
  obtain ⟨ds, rest, h1, h2, h3⟩ := hs
  have hr := (seen_left h h1 h2 e).1 he
  have hes : e ∈ es.toList := h1.mem_iff.1 (List.mem_append_right _ hr)
  have hpk : (e.key, e.val) ∈ ps.map pinK := by rw [← h.pairs]; exact List.mem_map.2 ⟨e, hes, rfl⟩
  obtain ⟨p, hp, hpe⟩ := List.mem_map.1 hpk
  obtain ⟨r1, r2, rfl⟩ := List.append_of_mem hr
  refine ⟨p, hpe.symm, hes, hp, ds ++ [e], r1 ++ r2, ?_, ?_, ?_⟩
  · refine List.Perm.trans ?_ h1
    rw [List.append_assoc]
    exact List.Perm.append_left _ (List.perm_middle (a := e) (l₁ := r1) (l₂ := r2)).symm
  · simp [h2]
  · simp [h3, hpe]
theorem Mem.nextP {es : Array MapEntry} {ck r : Nat} {seen : Array Nat} {done : List PinH} (M : Mem F X w0 L R w) (j k : Nat) (hL : L[j]? = some (Tp.blk b (.map es ck))) (hr : L[k]? = some (Tp.blk r (.mapIter (some b) ck seen ck))) (h : MapIs es ck ps) (hs : Seen es seen done) (hx : ρ.ev x = .pointer (some ⟨r, 0, none⟩)) :
    (done.Perm ps ∧ Step P (.next x false) ty ρ w (.tuple #[.bool false]) w) ∨
    ∃ p e w', Step P (.next x false) ty ρ w (.tuple #[.bool true, whoV p.sort p.id, .int .u64 p.epoch]) w' ∧ (e.key, e.val) = pinK p ∧ e ∈ es.toList ∧ p ∈ ps ∧ Seen es (seen.push e.born) (done ++ [p]) ∧ Mem F X w0 (L.set k (Tp.blk r (.mapIter (some b) ck (seen.push e.born) ck))) R w' := by
  have hb := M.blk j hL
  have hi := M.blk k hr
  have hgm : (getObj b).run P w = .ok (.map es ck) w := MapKept.run_getObj_map hb
  have hgi : (getObj r).run P w = .ok (.mapIter (some b) ck seen ck) w := by simp only [getObj, Sem.run, hi]
  have htest := next_test_false seen es ck ck h.old (Nat.le_refl _)
  have e1 : (es.filter fun e => !seen.contains e.born).filter (fun x => decide (x.born < ck)) = es.filter fun e => !seen.contains e.born := Array.filter_eq_self.2 fun x hx => by
    have := h.old x (by simp at hx ⊢; exact hx.1); simpa using this
  have e2 : (es.filter fun e => !seen.contains e.born).filter (fun x => decide (x.born ≥ ck)) = #[] := by
    rw [Array.filter_eq_empty_iff]
    intro x hx
    have := h.old x (by simp at hx ⊢; exact hx.1)
    simp; omega
  have hrun : ∀ q : Sem Value, (Instr.next (.pointer (some ⟨r, 0, none⟩)) false ty).run P w = q.run P w → (Instr.next (.pointer (some ⟨r, 0, none⟩)) false ty).run P w = q.run P w := fun _ h => h
  have hsl : ∀ e, e ∈ (es.filter fun e => !seen.contains e.born).toList → ∃ p, (e.key, e.val) = pinK p ∧ e ∈ es.toList ∧ p ∈ ps ∧ Seen es (seen.push e.born) (done ++ [p]) := fun e he => Seen.step h hs he
  have hpm := fun h0 => Seen.perm (ps := ps) h hs h0
  generalize hLf : (es.filter fun e => !seen.contains e.born) = Lf at e1 e2 hsl hpm
  by_cases h0 : Lf.size = 0
  · left
    refine ⟨hpm h0, fun d pos aft g => ?_⟩
    left
    have : Lf = #[] := Array.eq_empty_of_size_eq_zero h0
    subst this
    have hn : (Instr.next (.pointer (some ⟨r, 0, none⟩)) false ty).run P w = .ok (.tuple #[.bool false]) w := by
      simp only [Instr.next, Sem.run_bind, hgi, hgm, Result.andThen_ok, htest, Bool.false_eq_true, if_false, hLf, e1, e2, Array.append_empty]
      simp [choose, Sem.run, Question.forced]
    simp only [execOp, hx, Sem.run_bind, hn, Result.andThen_ok, Sem.run_pure]
  · right
    have hne : Lf.isEmpty = false := by simp [Array.isEmpty, h0]
    obtain ⟨c, w1, hc, hw1, hch⟩ : ∃ (c : Nat) (w1 : World), c < Lf.size ∧ (w1 = w ∨ w1 = w.drew) ∧ (choose (Question.mapNext Lf.size)).run P w = .ok c w1 := by
      by_cases hf : Lf.size ≤ 1
      · exact ⟨0, w, by omega, .inl rfl, by simp [choose, Sem.run, Question.forced, hf]⟩
      · exact ⟨_, w.drew, Nat.mod_lt _ (by omega), .inr rfl, by
          simp only [choose, Sem.run, Question.forced, decide_eq_true_eq, hf, if_false, Question.cut]
          rfl⟩
    have hM1 : Mem F X w0 L R w1 := by rcases hw1 with rfl | rfl; exact M; exact M.tick
    have hi1 := hM1.blk k hr
    obtain ⟨p, hp1, hp2, hp3, hp4⟩ := hsl Lf[c] (by simp)
    refine ⟨p, Lf[c], World.blkSet w1 r (.mapIter (some b) ck (seen.push Lf[c].born) ck), fun d pos aft g => ?_, hp1, hp2, hp3, hp4, hM1.setBlk k _ hr⟩
    left
    have hset : (setObj r (.mapIter (some b) ck (seen.push Lf[c].born) ck)).run P w1 = .ok () (World.blkSet w1 r (.mapIter (some b) ck (seen.push Lf[c].born) ck)) := by
      simp only [setObj, Sem.run, hi1, World.blkSet]
    have hq : (#[] ++ Lf.map some : Array (Option MapEntry))[c]? = some (some Lf[c]) := by simp [hc]
    have hk1 : Lf[c].key = whoV p.sort p.id := congrArg Prod.fst hp1
    have hk2 : Lf[c].val = .int .u64 p.epoch := congrArg Prod.snd hp1
    have hn : (Instr.next (.pointer (some ⟨r, 0, none⟩)) false ty).run P w = .ok (.tuple #[.bool true, whoV p.sort p.id, .int .u64 p.epoch]) (World.blkSet w1 r (.mapIter (some b) ck (seen.push Lf[c].born) ck)) := by
      simp only [Instr.next, Sem.run_bind, hgi, hgm, Result.andThen_ok, htest, Bool.false_eq_true, if_false, hLf, e1, e2, Array.append_empty, hne, Array.empty_append, Array.size_map, hch]
      simp [hc, hset, hk1, hk2]
    simp only [execOp, hx, Sem.run_bind, hn, Result.andThen_ok, Sem.run_pure]
theorem Mem.entryP {es : Array MapEntry} {ck r : Nat} {seen : Array Nat} {p : PinH} {e : MapEntry} (M : Mem F X w0 L R w) (j k : Nat) (hL : L[j]? = some (Tp.blk b (.map es ck))) (hr : L[k]? = some (Tp.blk r (.mapIter (some b) ck (seen.push e.born) ck))) (h : MapIs es ck ps) (he : e ∈ es.toList) (hp : (e.key, e.val) = pinK p) (hx : ρ.ev x = .pointer (some ⟨r, 0, none⟩)) :
    Step P (.entry x) ty ρ w (.tuple #[whoV p.sort p.id, .int .u64 p.epoch]) w := by
  have hb := M.blk j hL
  have hi := M.blk k hr
  have hgm : (getObj b).run P w = .ok (.map es ck) w := MapKept.run_getObj_map hb
  have hgi : (getObj r).run P w = .ok (.mapIter (some b) ck (seen.push e.born) ck) w := by simp only [getObj, Sem.run, hi]
  have hk1 : e.key = whoV p.sort p.id := congrArg Prod.fst hp
  have hk2 : e.val = .int .u64 p.epoch := congrArg Prod.snd hp
  have hf : es.find? (fun x => x.born == e.born) = some e := by
    rw [← Array.find?_toList]
    obtain ⟨n, hn, hne⟩ := List.getElem_of_mem he
    rw [List.find?_eq_some_iff_getElem]
    refine ⟨by simp, n, hn, hne, fun m hm => ?_⟩
    have := List.pairwise_iff_getElem.1 h.nd m n (by simp at hn ⊢; omega) (by simpa using hn) hm
    simp only [List.getElem_map, hne] at this
    simpa using this
  intro d pos aft g
  left
  simp [execOp, hx, Instr.entry, hgi, hgm, hf, hk1, hk2]
end
section
variable {P : Program} {n : Nat} {Q : Exit → Env → World → Prop} {ρ : Env} {w w0 : World} {ops : Array Oper} {rest : List Oper} {F X : Nat → Prop} {L : List Chunk} {R : List (World → Prop)} {d : Option Nat} {ty t kt et : TypeId} {pos : String} {aft : Array Edge} {g : Option (Nat × Bool)} {x : Operand} {b : Nat} {ps : List PinH}
theorem WL.rangeP {es : Array MapEntry} {ck : Nat} (M : Mem F X w0 L R w) (j : Nat) (hL : L[j]? = some (Tp.blk b (.map es ck))) (ht : MapTP P t kt et) (hg : ρ.want ops g = true) (hx : ρ.ev x = .map (some b))
    (k : ∀ r w', w0.heap.size ≤ r → Mem F X w0 (Tp.blk r (.mapIter (some b) ck #[] ck) :: L) R w' → WL P n ops rest Q (ρ.put d (.pointer (some ⟨r, 0, none⟩))) w') : WL P n ops (⟨d, .range t x, ty, pos, aft, g⟩ :: rest) Q ρ w := by
  obtain ⟨r, w', h1, h2, h3⟩ := M.rangeP (ty := ty) j hL ht hx
  exact WL.step hg h2 (k r w' h1 h3)
theorem WL.nextP {es : Array MapEntry} {ck r : Nat} {seen : Array Nat} {done : List PinH} (M : Mem F X w0 L R w) (j i : Nat) (hL : L[j]? = some (Tp.blk b (.map es ck))) (hr : L[i]? = some (Tp.blk r (.mapIter (some b) ck seen ck))) (h : MapIs es ck ps) (hs : Seen es seen done)
    (hg : ρ.want ops g = true) (hx : ρ.ev x = .pointer (some ⟨r, 0, none⟩)) (k0 : done.Perm ps → WL P n ops rest Q (ρ.put d (.tuple #[.bool false])) w)
    (k1 : ∀ p e w', (e.key, e.val) = pinK p → e ∈ es.toList → p ∈ ps → Seen es (seen.push e.born) (done ++ [p]) → Mem F X w0 (L.set i (Tp.blk r (.mapIter (some b) ck (seen.push e.born) ck))) R w' → WL P n ops rest Q (ρ.put d (.tuple #[.bool true, whoV p.sort p.id, .int .u64 p.epoch])) w') : WL P n ops (⟨d, .next x false, ty, pos, aft, g⟩ :: rest) Q ρ w := by
  rcases M.nextP (ty := ty) j i hL hr h hs hx with ⟨h1, h2⟩ | ⟨p, e, w', h1, h2, h3, h4, h5, h6⟩
  · exact WL.step hg h2 (k0 h1)
  · exact WL.step hg h1 (k1 p e w' h2 h3 h4 h5 h6)
end
end Tp
