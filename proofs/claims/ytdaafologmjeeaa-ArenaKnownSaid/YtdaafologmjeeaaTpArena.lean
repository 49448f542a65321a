/- The arena of nodes. -/
import Derived.Test.YtdaafologmjeeaaTpArenaM
import Derived.Test.YtdaafologmjeeaaTpElem
namespace Tp
open Go

def place5 (cs : List Value) (p : RPlace) (w : World) : Prop :=
  ∃ kv dv vv, cs = [.bool p.node.leaf, kv, dv, vv, .int .i64 p.turn] ∧ NodeC kv dv vv p.node w
def PlaceT : Ty RPlace := ⟨5, place5, fun _ _ _ ⟨_, _, _, h, _⟩ => by rw [h]; rfl⟩
def nodesC (S : Nat → Prop) (cs : List Value) (l : List RPlace) : Chunk := ⟨S, fun w => RepL PlaceT cs l w⟩
def setC (b : Nat) (ks : List Int) : Chunk := mapC .i64 b (ks.map fun k => (k, .agg #[]))
/-- the free numbers are those of the places that are not used -/
def FreeOk (ks : List Int) (l : List RPlace) : Prop := ks.Nodup ∧ ∀ k, k ∈ ks ↔ ∃ i : Nat, k = (i : Int) ∧ ∃ p, l[i]? = some p ∧ p.used = false
structure ArI where
  pv : Value
  fb : Nat
  cs : List Value
  ks : List Int
  N : Nat → Prop
/-- an arena's chunks: the struct (type t), the places (elements of type e), the free numbers, the nodes -/
abbrev arenaL (t e : TypeId) (ab : Nat) (l : List RPlace) (i : ArI) : List Chunk :=
  [blk ab (.cells #[i.pv, .map (some i.fb)] t), own e 5 i.pv l.length i.cs, setC i.fb i.ks, nodesC i.N i.cs l]
def arenaC (t e : TypeId) (S : Nat → Prop) (ab : Nat) (l : List RPlace) : Chunk := Pack S (arenaL t e ab l) fun i => FreeOk i.ks l

/-- is the number free? -/
def isFree (l : List RPlace) (a : Int) : Bool := decide (a ≥ 0) && match l[a.toNat]? with
  | some p => !p.used
  | none => false

theorem set_find {ks : List Int} {a : Int} : (mfind a (ks.map fun k => (k, Value.agg #[])) 0).isSome = decide (a ∈ ks) := by
  have h := mfind_none (a := a) (kvs := ks.map fun k => (k, Value.agg #[])) (i := 0)
  cases hm : mfind a (ks.map fun k => (k, Value.agg #[])) 0 with
  | none =>
    have := h.1 hm
    simp at this
    have : a ∉ ks := fun hm => this a hm rfl
    simp [this]
  | some p =>
    have : ¬ (∀ p, p ∈ (ks.map fun k => (k, Value.agg #[])) → p.1 ≠ a) := fun h' => by rw [h.2 h'] at hm; cases hm
    simp at this
    simp [this]
theorem set_val {ks : List Int} {a : Int} : ((mfind a (ks.map fun k => (k, Value.agg #[])) 0).map (·.2)).getD (.agg #[]) = .agg #[] := by
  cases hm : mfind a (ks.map fun k => (k, Value.agg #[])) 0 with
  | none => rfl
  | some p =>
    obtain ⟨j, v⟩ := p
    have := (mfind_some hm).2
    rw [List.getElem?_map] at this
    cases hk : ks[j - 0]? with
    | none => rw [hk] at this; cases this
    | some k => rw [hk] at this; simp at this; simp [this.2]
theorem free_iff {ks : List Int} {l : List RPlace} (h : FreeOk ks l) (a : Int) : decide (a ∈ ks) = isFree l a := by
  have := h.2 a
  unfold isFree
  rw [Bool.eq_iff_iff]
  simp only [decide_eq_true_eq, Bool.and_eq_true]
  rw [this]
  constructor
  · rintro ⟨i, rfl, p, hp, hu⟩
    refine ⟨by omega, ?_⟩
    rw [Int.toNat_natCast, hp]; simp [hu]
  · rintro ⟨h1, h2⟩
    cases hp : l[a.toNat]? with
    | none => rw [hp] at h2; cases h2
    | some p => rw [hp] at h2; simp at h2; exact ⟨a.toNat, by omega, p, hp, h2⟩
def sadd (a : Int) (ks : List Int) : List Int := if a ∈ ks then ks else ks ++ [a]
theorem set_mset (a : Int) (ks : List Int) : mset a (.agg #[]) (ks.map fun k => (k, Value.agg #[])) = (sadd a ks).map fun k => (k, Value.agg #[]) := by
  unfold mset sadd
  have h := set_find (ks := ks) (a := a)
  cases hm : mfind a (ks.map fun k => (k, Value.agg #[])) 0 with
  | none => rw [hm] at h; simp at h; simp [h]
  | some p =>
    obtain ⟨j, v⟩ := p
    rw [hm] at h; simp at h
    rw [if_pos h]
    have hj := (mfind_some hm).2
    simp only [Nat.sub_zero] at hj
    show (ks.map fun k => (k, Value.agg #[])).set j (a, .agg #[]) = ks.map fun k => (k, Value.agg #[])
    apply List.ext_getElem?
    intro n
    rw [List.getElem?_set]
    by_cases e : j = n
    · subst e
      have hlt := (List.getElem?_eq_some_iff.1 hj).1
      have : v = .agg #[] := by rw [List.getElem?_map] at hj; cases hk : ks[j]? with | none => rw [hk] at hj; cases hj | some k => rw [hk] at hj; simp at hj; exact hj.2.symm
      rw [if_pos rfl, if_pos hlt, hj, this]
    · rw [if_neg e]
theorem erase_nodup : ∀ {ks : List Int} (_ : ks.Nodup) {j : Nat} (h : j < ks.length), ks.erase ks[j] = ks.eraseIdx j
  | k :: ks, _, 0, _ => by simp
  | k :: ks, hn, j + 1, h => by
    have h' : j < ks.length := by simpa using h
    have hne : k ≠ ks[j] := (List.pairwise_cons.1 hn).1 _ (List.getElem_mem h')
    rw [List.getElem_cons_succ, List.eraseIdx_cons_succ, List.erase_cons_tail (by simpa using hne), erase_nodup (List.pairwise_cons.1 hn).2 h']
theorem set_mdel (a : Int) {ks : List Int} (hn : ks.Nodup) : mdel a (ks.map fun k => (k, Value.agg #[])) = (ks.erase a).map fun k => (k, Value.agg #[]) := by
  unfold mdel
  have h := set_find (ks := ks) (a := a)
  cases hm : mfind a (ks.map fun k => (k, Value.agg #[])) 0 with
  | none => rw [hm] at h; simp at h; simp [List.erase_of_not_mem h]
  | some p =>
    obtain ⟨j, v⟩ := p
    have hj := (mfind_some hm).2
    simp only [Nat.sub_zero] at hj
    have hk : ks[j]? = some a := by rw [List.getElem?_map] at hj; cases hk : ks[j]? with | none => rw [hk] at hj; cases hj | some k => rw [hk] at hj; simp at hj; rw [hj.1]
    show (ks.map fun k => (k, Value.agg #[])).eraseIdx j = _
    rw [← eraseIdx_map']
    congr 1
    obtain ⟨hlt, he⟩ := List.getElem?_eq_some_iff.1 hk
    rw [← he]; exact (erase_nodup hn hlt).symm

section
variable {P : Program} {ρ : Env} {F X : Nat → Prop} {w w0 : World} {L : List Chunk} {R : List (World → Prop)} {ty t kt et ts : TypeId} {b : Nat} {ks : List Int} {x ix y : Operand} {a : Int} {l : List RPlace}
theorem Mem.setLook (M : Mem F X w0 L R w) (i : Nat) (hL : L[i]? = some (setC b ks)) (hK : FreeOk ks l) (ht : MapT P t kt et .i64 (.agg #[])) (hx : ρ.ev x = .map (some b)) (hi : ρ.ev ix = .int .i64 a) :
    Step P (.lookup t x ix true) ty ρ w (.tuple #[.agg #[], .bool (isFree l a)]) w := by
  have := Mem.lookup (ty := ty) M i hL ht hx hi
  rwa [set_val, set_find, free_iff hK] at this
theorem Mem.setAdd (M : Mem F X w0 L R w) (i : Nat) (hL : L[i]? = some (setC b ks)) (ht : MapT P t kt et .i64 (.agg #[])) (hx : ρ.ev x = .map (some b)) (hi : ρ.ev ix = .int .i64 a) (hy : ρ.ev y = .agg #[]) :
    ∃ w', Step P (.mapUpdate t x ix y) ty ρ w undef w' ∧ Mem F X w0 (L.set i (setC b (sadd a ks))) R w' ∧ Mod (setC b ks).foot w w' := by
  have := Mem.mapSet (ty := ty) M i hL ht hx hi hy
  rwa [set_mset] at this
theorem Mem.setDel (M : Mem F X w0 L R w) (i : Nat) (hL : L[i]? = some (setC b ks)) (hn : ks.Nodup) (ht : MapT P t kt et .i64 (.agg #[])) (hx : ρ.ev x = .map (some b)) (hi : ρ.ev ix = .int .i64 a) :
    ∃ w', Step P (.call { callee := .builtin .delete, args := #[x, ix], argTypes := #[t, ts] }) ty ρ w undef w' ∧ Mem F X w0 (L.set i (setC b (ks.erase a))) R w' ∧ Mod (setC b ks).foot w w' := by
  have := Mem.mapDel (ty := ty) (ts := ts) M i hL ht hx hi
  rwa [set_mdel a hn] at this
theorem Mem.setLen (M : Mem F X w0 L R w) (i : Nat) (hL : L[i]? = some (setC b ks)) (ht : MapT P t kt et .i64 (.agg #[])) (hx : ρ.ev x = .map (some b)) :
    Step P (.call { callee := .builtin .len, args := #[x], argTypes := #[t] }) ty ρ w (.int .i64 ks.length) w := by
  have := Mem.lenMap (ty := ty) M i hL ht hx
  rwa [List.length_map] at this
theorem Mem.setNew (M : Mem F X w0 L R w) (i : Nat) (hL : L[i]? = some (Tp.blk b (.map #[] 0))) : Mem F X w0 (L.set i (setC b [])) R w := M.mapNew i hL
end

/-- the number of places that are used -/
def usedN (l : List RPlace) : Nat := l.countP (·.used)
theorem free_len {ks : List Int} {l : List RPlace} (h : FreeOk ks l) : ks.length + usedN l = l.length := by
  have h1 : (ks.map Int.toNat).Perm ((List.range l.length).filter fun i => (match l[i]? with | some p => !p.used | none => false)) := by
    rw [List.perm_ext_iff_of_nodup]
    · intro i
      simp only [List.mem_map, List.mem_filter, List.mem_range]
      constructor
      · rintro ⟨k, hk, rfl⟩
        obtain ⟨j, rfl, p, hp, hu⟩ := (h.2 k).1 hk
        have := (List.getElem?_eq_some_iff.1 hp).1
        simp only [Int.toNat_natCast]
        exact ⟨this, by rw [hp]; simp [hu]⟩
      · rintro ⟨h1, h2⟩
        cases hp : l[i]? with
        | none => rw [hp] at h2; cases h2
        | some p => rw [hp] at h2; simp at h2; exact ⟨i, (h.2 i).2 ⟨i, rfl, p, hp, h2⟩, by simp⟩
    · refine (List.pairwise_map.2 (List.Pairwise.imp_of_mem ?_ h.1))
      intro a b ha hb hne e
      obtain ⟨i, rfl, _⟩ := (h.2 a).1 ha
      obtain ⟨j, rfl, _⟩ := (h.2 b).1 hb
      simp at e; exact hne (by rw [e])
    · exact List.nodup_range.filter _
  have h2 := h1.length_eq
  rw [List.length_map] at h2
  rw [h2]
  have key : ∀ n, n ≤ l.length → ((List.range n).filter fun i => (match l[i]? with | some p => !p.used | none => false)).length + (l.take n).countP (·.used) = n := by
    intro n
    induction n with
    | zero => intro _; simp
    | succ n ih =>
      intro hn
      have := ih (by omega)
      have hl : n < l.length := by omega
      rw [List.range_succ, List.filter_append, List.length_append, List.take_succ_eq_append_getElem hl, List.countP_append]
      simp only [List.filter_cons, List.filter_nil, List.getElem?_eq_getElem hl, List.countP_cons, List.countP_nil]
      cases l[n].used <;> simp <;> omega
  have := key l.length (Nat.le_refl _)
  rw [List.take_length] at this
  exact this
end Tp
namespace Tp
open Go
section
variable {cs pre post cells : List Value} {l : List RPlace} {i : Nat} {p p' : RPlace} {w : World} {kv dv vv : Value}
theorem place_cells (h : RepL PlaceT cs l w) (hp : l[i]? = some p) : ∃ kv dv vv, IsSl kv ∧ IsSl dv ∧ IsSl vv ∧ (cs.drop (i * 5)).take 5 = [.bool p.node.leaf, kv, dv, vv, .int .i64 p.turn] := by
  obtain ⟨kv, dv, vv, hc, h1, h2, h3⟩ := h.2 i p hp
  exact ⟨kv, dv, vv, h1.isSl, h2.isSl, h3.isSl, hc⟩
theorem place_node (h : RepL PlaceT cs l w) (hp : l[i]? = some p) (hc : (cs.drop (i * 5)).take 5 = [.bool p.node.leaf, kv, dv, vv, .int .i64 p.turn]) : NodeC kv dv vv p.node w := by
  obtain ⟨kv', dv', vv', hc', h1⟩ := h.2 i p hp
  have : (cs.drop (i * 5)).take 5 = [.bool p.node.leaf, kv', dv', vv', .int .i64 p.turn] := hc'
  rw [hc] at this
  simp only [List.cons.injEq, true_and, and_true] at this
  obtain ⟨rfl, rfl, rfl⟩ := this
  exact h1
theorem place_open (h : RepL PlaceT cs l w) (hp : l[i]? = some p) : ∃ pre post kv dv vv, IsSl kv ∧ IsSl dv ∧ IsSl vv ∧ cs = pre ++ ([.bool p.node.leaf, kv, dv, vv, .int .i64 p.turn] ++ post) ∧ pre.length = i * 5 := by
  obtain ⟨pre, post, h1, h2, kv, dv, vv, hc, h3, h4, h5⟩ := row_open h hp
  rw [show ((cs.drop (i * PlaceT.size)).take PlaceT.size) = [.bool p.node.leaf, kv, dv, vv, .int .i64 p.turn] from hc] at h1
  exact ⟨pre, post, kv, dv, vv, h3.isSl, h4.isSl, h5.isSl, h1, h2⟩
end
section
variable {F X : Nat → Prop} {w w0 : World} {L : List Chunk} {R : List (World → Prop)} {N : Nat → Prop} {cs pre post cells : List Value} {l : List RPlace} {i : Nat} {p : RPlace} {n : Nd} {kv dv vv : Value} {es eh ei : TypeId} {u : Bool} {t : Int}
theorem nodeC_of_own (h1 : w.ownsRow 0 es 1 kv n.keys.length (n.keys.flatMap strE)) (h2 : w.ownsRow 0 eh 2 dv n.kids.length (n.kids.flatMap handleE)) (h3 : w.ownsRow 0 ei 1 vv n.vals.length (n.vals.flatMap intE)) : NodeC kv dv vv n w :=
  ⟨own_slAt h1, own_slAt h2, own_slAt h3⟩
/-- a node is put in a place -/
theorem Mem.nodesPut (M : Mem F X w0 (nodesC N (pre ++ (cells ++ post)) l :: Tp.own es 1 kv n.keys.length (n.keys.flatMap strE) :: Tp.own eh 2 dv n.kids.length (n.kids.flatMap handleE) :: Tp.own ei 1 vv n.vals.length (n.vals.flatMap intE) :: L) R w)
    (hp : pre.length = i * 5) (hc : cells.length = 5) (hi : i < l.length) :
    ∃ N', Mem F X w0 (nodesC N' (pre ++ ([.bool n.leaf, kv, dv, vv, .int .i64 t] ++ post)) (l.set i ⟨u, t, n⟩) :: L) R w := by
  refine ⟨Foots [nodesC N (pre ++ (cells ++ post)) l, Tp.own es 1 kv n.keys.length (n.keys.flatMap strE), Tp.own eh 2 dv n.kids.length (n.kids.flatMap handleE), Tp.own ei 1 vv n.vals.length (n.vals.flatMap intE)], ?_⟩
  refine Mem.take (C' := [_, _, _, _]) M _ rfl fun w' hok => ?_
  have h0 := (hok _ (List.mem_cons_self ..)).inv
  have h1 := (hok _ (List.mem_cons_of_mem _ (List.mem_cons_self ..))).inv
  have h2 := (hok _ (List.mem_cons_of_mem _ (List.mem_cons_of_mem _ (List.mem_cons_self ..)))).inv
  have h3 := (hok _ (List.mem_cons_of_mem _ (List.mem_cons_of_mem _ (List.mem_cons_of_mem _ (List.mem_cons_self ..))))).inv
  exact row_close h0 hp hc ⟨kv, dv, vv, rfl, nodeC_of_own h1 h2 h3⟩ hi
/-- a node is put behind them -/
theorem Mem.nodesAdd (M : Mem F X w0 (nodesC N cs l :: Tp.own es 1 kv n.keys.length (n.keys.flatMap strE) :: Tp.own eh 2 dv n.kids.length (n.kids.flatMap handleE) :: Tp.own ei 1 vv n.vals.length (n.vals.flatMap intE) :: L) R w) :
    ∃ N', Mem F X w0 (nodesC N' (cs ++ ([.bool n.leaf, kv, dv, vv, .int .i64 t] ++ [])) (l ++ [⟨u, t, n⟩]) :: L) R w := by
  refine ⟨Foots [nodesC N cs l, Tp.own es 1 kv n.keys.length (n.keys.flatMap strE), Tp.own eh 2 dv n.kids.length (n.kids.flatMap handleE), Tp.own ei 1 vv n.vals.length (n.vals.flatMap intE)], ?_⟩
  refine Mem.take (C' := [_, _, _, _]) M _ rfl fun w' hok => ?_
  have h0 := (hok _ (List.mem_cons_self ..)).inv
  have h1 := (hok _ (List.mem_cons_of_mem _ (List.mem_cons_self ..))).inv
  have h2 := (hok _ (List.mem_cons_of_mem _ (List.mem_cons_of_mem _ (List.mem_cons_self ..)))).inv
  have h3 := (hok _ (List.mem_cons_of_mem _ (List.mem_cons_of_mem _ (List.mem_cons_of_mem _ (List.mem_cons_self ..))))).inv
  rw [List.append_nil]
  exact repL_snoc (T := PlaceT) h0 ⟨kv, dv, vv, rfl, nodeC_of_own h1 h2 h3⟩
/-- a place's node is blank -/
theorem Mem.nodesClear (M : Mem F X w0 (nodesC N (pre ++ (cells ++ post)) l :: L) R w) (hp : pre.length = i * 5) (hc : cells.length = 5) (hi : i < l.length) :
    Mem F X w0 (nodesC N (pre ++ ([.bool false, .slice none 0 0, .slice none 0 0, .slice none 0 0, .int .i64 t] ++ post)) (l.set i ⟨u, t, ⟨false, [], [], []⟩⟩) :: L) R w := by
  refine Mem.take (C' := [_]) M _ ?_ fun w' hok => ?_
  · funext b; simp [Foots, nodesC]
  · exact row_close (hok _ (List.mem_cons_self ..)).inv hp hc ⟨_, _, _, rfl, SlAt.nil 1 _, SlAt.nil 2 _, SlAt.nil 1 _⟩ hi
end
end Tp
