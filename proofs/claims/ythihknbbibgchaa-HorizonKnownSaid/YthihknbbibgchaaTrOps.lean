/- More operations: loads out of slices, len, append, slicing. -/
import Derived.Test.YthihknbbibgchaaTrSlice
namespace Tp
open Go

section
variable {P : Program} {n : Nat} {Q : Exit → Env → World → Prop} {ρ : Env} {w : World} {ops : Array Oper} {rest : List Oper}
theorem WL.does {d : Option Nat} {op : Op} {ty : TypeId} {pos : String} {aft : Array Edge} {g : Option (Nat × Bool)} {R : Value → World → Prop} (hg : ρ.want ops g = true)
    (h : Does P ⟨d, op, ty, pos, aft, g⟩ ρ w R) (k : ∀ v w', R v w' → WL P n ops rest Q (ρ.put d v) w') : WL P n ops (⟨d, op, ty, pos, aft, g⟩ :: rest) Q ρ w := by
  rcases h with ⟨v, w', h1, h2⟩ | ⟨nx, h0, h1, h2⟩
  · exact WL.step hg h1 (k v w' h2)
  · exact WL.callN hg h1 h0 h2 k
end

def Und (P : Program) (t : TypeId) (d : TypeDesc) : Prop := P.underlying t = some d
theorem Und.run {P : Program} {t : TypeId} {d : TypeDesc} (h : Und P t d) (w : World) : (underlying t).run P w = .ok d w := run_underlying h w

/-- a row of the table of types -/
def Elem (P : Program) (e : TypeId) (z : Value) (size bytes : Nat) : Prop := ∃ i, P.info? e = some i ∧ i.zero = some z ∧ i.size = size ∧ i.bytes = bytes
theorem Elem.mk {P : Program} {e : TypeId} {z : Value} {size bytes : Nat} (h : (P.info? e).map (fun i => (i.zero, i.size, i.bytes)) = some (some z, size, bytes)) : Elem P e z size bytes := by
  cases hi : P.info? e with
  | none => rw [hi] at h; cases h
  | some i =>
    rw [hi] at h
    simp only [Option.map_some, Option.some.injEq, Prod.mk.injEq] at h
    exact ⟨i, hi, h.1, h.2.1, h.2.2⟩
theorem Elem.sized {P : Program} {e : TypeId} {z : Value} {size bytes : Nat} (h : Elem P e z size bytes) : Sized P e size := by
  obtain ⟨i, h1, _, h3, _⟩ := h
  intro w
  simp [Go.sizeOf, typeInfo, h1, h3]
theorem Elem.zero {P : Program} {e : TypeId} {z : Value} {size bytes : Nat} (h : Elem P e z size bytes) (w : World) : (zeroValue e).run P w = .ok z w := by
  obtain ⟨i, h1, h2, _, _⟩ := h
  simp [zeroValue, typeInfo, h1, h2]

namespace Step
variable {P : Program} {ρ : Env} {w w' : World} {ty : TypeId}

theorem loadC {t : TypeId} {x : Operand} {b o k : Nat} {cs : List Value} (ht : Aggr P t k) (ha : ρ.ev x = .pointer (some ⟨b, o, none⟩))
    (hc : ∀ j, j < k → w.cell? ⟨b, o + j, none⟩ = cs[j]?) (hl : cs.length = k) : Step P (.load t x) ty ρ w (.agg cs.toArray) w := by
  intro d pos aft g
  left
  have hr := run_loadCells_list (P := P) w ⟨b, o, none⟩ cs (fun j v hj => by
    have hadd : (⟨b, o, none⟩ : Addr).add j = ⟨b, o + j, none⟩ := by unfold Addr.add; split <;> simp_all
    have hlt : j < cs.length := (List.getElem?_eq_some_iff.1 hj).1
    rw [hadd, hc j (by omega), hj])
  rw [hl] at hr
  simp [execOp, ha, Instr.loadAt, Instr.sureAddr, loadVar, ht.agg w, ht.size w, hr]
/-- one cell of an element -/
theorem loadE {t : TypeId} {x : Operand} {v u : Value} {size i k : Nat} {cs : List Value} (ht : Scal P t) (he : EC v size i cs w) (hk : k < size)
    (ha : ρ.ev x = .pointer (some ⟨sBlk v, sOff v + i * size + k, none⟩)) (hu : cs[k]? = some u) : Step P (.load t x) ty ρ w u w :=
  load1 ht ha ((he.2 k hk).trans hu)
/-- some cells of an element -/
theorem loadEN {t : TypeId} {x : Operand} {v : Value} {size i k m : Nat} {cs cs' : List Value} (ht : Aggr P t m) (he : EC v size i cs w) (hk : k + m ≤ size)
    (ha : ρ.ev x = .pointer (some ⟨sBlk v, sOff v + i * size + k, none⟩)) (hcs : (cs.drop k).take m = cs') (hl : cs'.length = m) : Step P (.load t x) ty ρ w (.agg cs'.toArray) w :=
  loadC ht ha (fun j hj => by
    rw [Nat.add_assoc _ k j, he.2 (k + j) (by omega), ← hcs, List.getElem?_take, if_pos hj, List.getElem?_drop]) hl

theorem lenS {t e : TypeId} {x : Operand} {v : Value} {a : Option Addr} {n cap : Nat} (ht : Und P t (.slice e)) (hx : ρ.ev x = v) (hv : v = .slice a n cap) :
    Step P (.call { callee := .builtin .len, args := #[x], argTypes := #[t] }) ty ρ w (.int .i64 n) w := by
  intro d pos aft g
  left
  subst hv
  simp [execOp, resolve, invoke, builtin, hx, Builtin.len_, ht.run, goInt]
theorem lenSl {t e : TypeId} {x : Operand} {v : Value} {n size : Nat} {cs : List Value} (ht : Und P t (.slice e)) (hx : ρ.ev x = v) (hv : SlAt size v n cs w) :
    Step P (.call { callee := .builtin .len, args := #[x], argTypes := #[t] }) ty ρ w (.int .i64 n) w := by
  obtain ⟨a, cap, h⟩ := hv.value
  exact lenS ht hx h
/-- a sum, a difference, a product that fits -/
theorem add {t ty' : TypeId} {x y : Operand} {k : IntKind} {a b c : Int} (hx : ρ.ev x = .int k a) (hy : ρ.ev y = .int k b) (hc : k.wrap (a + b) = c) : Step P (.binOp .add t x y ty') ty ρ w (.int k c) w := by
  intro d pos aft g
  left
  simp [execOp, eqGuard, hx, hy, binOp, Op.intArith, hc]
theorem sub {t ty' : TypeId} {x y : Operand} {k : IntKind} {a b c : Int} (hx : ρ.ev x = .int k a) (hy : ρ.ev y = .int k b) (hc : k.wrap (a - b) = c) : Step P (.binOp .sub t x y ty') ty ρ w (.int k c) w := by
  intro d pos aft g
  left
  simp [execOp, eqGuard, hx, hy, binOp, Op.intArith, hc]
theorem mul {t ty' : TypeId} {x y : Operand} {k : IntKind} {a b c : Int} (hx : ρ.ev x = .int k a) (hy : ρ.ev y = .int k b) (hc : k.wrap (a * b) = c) : Step P (.binOp .mul t x y ty') ty ρ w (.int k c) w := by
  intro d pos aft g
  left
  simp [execOp, eqGuard, hx, hy, binOp, Op.intArith, hc]
end Step

/-! ## Results -/
def RV (P : Program) (ρ : Env) (w : World) : ResultVar → Value → Prop
  | .tmp t, v => ρ.f t = v
  | .cell t ty, v => ∃ a, ρ.f t = .pointer (some a) ∧ (loadVar ty a).run P w = .ok v w
section
variable {P : Program} {ρ : Env} {w : World}
def rvSem (tmps : Array Value) : ResultVar → Sem Value
  | .tmp t => Pure.pure (tmps.getD t undef)
  | .cell a t => do loadVar t (← asAddr (tmps.getD a undef))
theorem RV.run {r : ResultVar} {v : Value} (h : RV P ρ w r v) {tmps : Array Value} (hg : ∀ t, tmps.getD t undef = ρ.f t) : (rvSem tmps r).run P w = .ok v w := by
  cases r with
  | tmp t => simp only [rvSem, hg]; rw [show ρ.f t = v from h]; simp
  | cell a t =>
    obtain ⟨ad, h1, h2⟩ := h
    simp only [rvSem, hg, h1, asAddr, Sem.run_bind, Sem.run_pure, Result.andThen_ok, h2]
inductive RVs (P : Program) (ρ : Env) (w : World) : List ResultVar → List Value → Prop
  | nil : RVs P ρ w [] []
  | cons {r : ResultVar} {v : Value} {rs : List ResultVar} {vs : List Value} (h : RV P ρ w r v) (t : RVs P ρ w rs vs) : RVs P ρ w (r :: rs) (v :: vs)
theorem RVs.run {rs : List ResultVar} {vs : List Value} (h : RVs P ρ w rs vs) {tmps : Array Value} (hg : ∀ t, tmps.getD t undef = ρ.f t) : (rs.mapM (rvSem tmps)).run P w = .ok vs w := by
  induction h with
  | nil => simp
  | cons h _ ih => rw [List.mapM_cons, Sem.run_bind, h.run hg, Result.andThen_ok, Sem.run_bind, ih, Result.andThen_ok]; rfl
theorem RVs.res {rs : List ResultVar} {vs : List Value} (h : RVs P ρ w rs vs) (v : Value) (hv : (if h : vs.toArray.size = 1 then vs.toArray[0] else .tuple vs.toArray) = v) : Res P rs.toArray ρ w v := by
  intro fn tmps hr hg
  have e : results fn tmps = (do let us ← fn.results.mapM (rvSem tmps); Pure.pure (if h : us.size = 1 then us[0] else .tuple us)) := by
    unfold results
    congr 1
  have h1 := h.run hg
  rw [e, hr, List.mapM_toArray, Sem.run_bind]
  have : (Functor.map List.toArray (List.mapM (rvSem tmps) rs)).run P w = .ok vs.toArray w := by
    rw [show (Functor.map List.toArray (List.mapM (rvSem tmps) rs)) = (List.mapM (rvSem tmps) rs >>= fun l => Pure.pure l.toArray) from rfl, Sem.run_bind, h1]; rfl
  rw [this, Result.andThen_ok, Sem.run_pure, hv]
theorem Res.r1 {r : ResultVar} {v : Value} (h : RV P ρ w r v) : Res P #[r] ρ w v := (RVs.cons h .nil).res _ rfl
theorem Res.r2 {r1 r2 : ResultVar} {v1 v2 : Value} (h1 : RV P ρ w r1 v1) (h2 : RV P ρ w r2 v2) : Res P #[r1, r2] ρ w (.tuple #[v1, v2]) := (RVs.cons h1 (.cons h2 .nil)).res _ rfl
theorem Res.r3 {r1 r2 r3 : ResultVar} {v1 v2 v3 : Value} (h1 : RV P ρ w r1 v1) (h2 : RV P ρ w r2 v2) (h3 : RV P ρ w r3 v3) : Res P #[r1, r2, r3] ρ w (.tuple #[v1, v2, v3]) := (RVs.cons h1 (.cons h2 (.cons h3 .nil))).res _ rfl
theorem Res.r4 {r1 r2 r3 r4 : ResultVar} {v1 v2 v3 v4 : Value} (h1 : RV P ρ w r1 v1) (h2 : RV P ρ w r2 v2) (h3 : RV P ρ w r3 v3) (h4 : RV P ρ w r4 v4) : Res P #[r1, r2, r3, r4] ρ w (.tuple #[v1, v2, v3, v4]) := (RVs.cons h1 (.cons h2 (.cons h3 (.cons h4 .nil)))).res _ rfl
theorem loadVar_blk {t : TypeId} {b o k : Nat} {c cs : Array Value} {e : TypeId} {fz : Nat × Nat} (ht : Aggr P t k)
    (hb : w.heap[b]? = some (.cells c e fz)) (hs : o + k ≤ c.size) (hcs : c.extract o (o + k) = cs) : (loadVar t ⟨b, o, none⟩).run P w = .ok (.agg cs) w := by
  have h := Step.loadN (ty := 0) (x := .const (.pointer (some ⟨b, o, none⟩))) (ρ := ⟨fun _ => undef, [], none⟩) ht rfl hb hs hcs none "" #[] none
  rcases h with h | ⟨h, _⟩
  · have e : (execOp (Env.ev ⟨fun _ => undef, [], none⟩) { dst := none, op := .load t (.const (.pointer (some ⟨b, o, none⟩))), type := 0, pos := "", after := #[], guard := none }) =
        (do Pure.pure (Next.value (← loadVar t ⟨b, o, none⟩)) : Sem Next) := by simp [execOp, Instr.loadAt, Instr.sureAddr, Env.ev]
    rw [e, Sem.run_bind] at h
    cases hl : (loadVar t ⟨b, o, none⟩).run P w with
    | ok v w' => rw [hl] at h; simp at h; obtain ⟨rfl, rfl⟩ := h; rfl
    | halt x w' => rw [hl] at h; cases h
  · exfalso
    have e : (execOp (Env.ev ⟨fun _ => undef, [], none⟩) { dst := none, op := .load t (.const (.pointer (some ⟨b, o, none⟩))), type := 0, pos := "", after := #[], guard := none }) =
        (do Pure.pure (Next.value (← loadVar t ⟨b, o, none⟩)) : Sem Next) := by simp [execOp, Instr.loadAt, Instr.sureAddr, Env.ev]
    rw [e, Sem.run_bind] at h
    cases hl : (loadVar t ⟨b, o, none⟩).run P w with
    | ok v w' => rw [hl] at h; simp at h
    | halt x w' => rw [hl] at h; cases h
theorem RV.cellN {s t : TypeId} {b k : Nat} {c : Array Value} {e : TypeId} {fz : Nat × Nat} (ht : Aggr P t k) (hs : ρ.f s = .pointer (some ⟨b, 0, none⟩))
    (hb : w.heap[b]? = some (.cells c e fz)) (hk : c.size = k) : RV P ρ w (.cell s t) (.agg c) :=
  ⟨_, hs, loadVar_blk ht hb (by omega) (by rw [Nat.zero_add, ← hk]; exact Array.extract_size)⟩
end

theorem wrap_i64 {a : Int} (h : -9223372036854775808 ≤ a ∧ a ≤ 9223372036854775807) : IntKind.i64.wrap a = a := IntWalk.i64_in a h

/-! ## append -/
theorem SlAt.srcCells {size : Nat} {v : Value} {m : Nat} {cs : List Value} {w : World} (h : SlAt size v m cs w) (a : Addr) (cap : Nat) (hv : v = .slice (some a) m cap) : ∀ j u, cs[j]? = some u → w.cell? (a.add j) = some u := by
  intro j u hu
  rcases h with ⟨⟨_, rfl⟩, rfl, rfl⟩ | ⟨b, o, cap', c, e, fz, rfl, _, _, hb, _, hl, hc⟩
  · simp at hu
  · simp only [Value.slice.injEq, Option.some.injEq] at hv
    obtain ⟨rfl, _, _⟩ := hv
    have hadd : (⟨b, o, none⟩ : Addr).add j = ⟨b, o + j, none⟩ := by unfold Addr.add; split <;> simp_all
    rw [hadd, cell_blk hb, hc j (by rw [← hl]; exact (List.getElem?_eq_some_iff.1 hu).1), hu]

theorem append_run {P : Program} {w : World} {t ty e : TypeId} {z : Value} {size bytes : Nat} (ht : Und P t (.slice e)) (he : Elem P e z size bytes) (hzs : z.cells.size = size) (hsz : 0 < size)
    {v : Value} {n : Nat} {cs : List Value} (hown : w.ownsRow 0 e size v n cs) {sv : Value} {m : Nat} {news : List Value} (hsrc : SlAt size sv m news w) (h1 : ∀ u, u ∈ news → u.oneCell' = true)
    (h63 : n + m ≤ maxLen) (hb : (n + m) * bytes ≤ 140737488355328) :
    ∃ v' w', (Builtin.append_ #[t, t] ty #[v, sv]).run P w = .ok v' w' ∧ w'.ownsRow 0 e size v' (n + m) (cs ++ news) ∧ Mod (fun b => v.ownBlock = some b) w w' ∧
      ∀ b, v'.ownBlock = some b → v.ownBlock = some b ∨ w.heap.size ≤ b := by
  obtain ⟨i, hi, hz, hs, hby⟩ := he
  subst hs
  subst hby
  have hlen : (cs ++ news).length = (n + m) * i.size := by rw [List.length_append, hown.1, hsrc.len, Nat.add_mul]
  have hsmall : n + m ≤ 9223372036854775807 := by simp only [maxLen] at h63; omega
  -- nothing is appended from a nil slice
  have none_case : sv = .slice none 0 0 → m = 0 → news = [] → ∃ v' w', (Builtin.append_ #[t, t] ty #[v, sv]).run P w = .ok v' w' ∧ w'.ownsRow 0 e i.size v' (n + m) (cs ++ news) ∧ Mod (fun b => v.ownBlock = some b) w w' ∧
      ∀ b, v'.ownBlock = some b → v.ownBlock = some b ∨ w.heap.size ≤ b := by
    rintro rfl rfl rfl
    exact ⟨v, w, run_append_owned_none (P := P) (w := w) 0 t ty e i i.size ht hi v n cs hown, by simpa using hown, Mod.refl _ _, fun b hb => .inl hb⟩
  have hways : (sv = .slice none 0 0 ∧ m = 0 ∧ news = []) ∨ ∃ a m', sv = .slice (some a) m m' := by
    rcases hsrc with ⟨⟨a, hsv⟩, hm, hne⟩ | ⟨b, o, cap, _, _, _, h, _⟩
    · cases a with
      | none => exact .inl ⟨hsv, hm, hne⟩
      | some a => exact .inr ⟨a, 0, by rw [hsv, hm]⟩
    · exact .inr ⟨_, _, h⟩
  rcases hways with ⟨hsv, hm, hne⟩ | ⟨a, m', hsv⟩
  · exact none_case hsv hm hne
  have hl := hsrc.len
  have hnews := hsrc.srcCells a m' hsv
  subst hsv
  have grown : ∀ (old : Nat), old < n + m →
      (w.drew.alloc (.cells (cs.toArray ++ news.toArray ++ Builtin.zeroCells z.cells (grownCap w (n + m) old e - (n + m))) e)).ownsRow 0 e i.size
        (.slice (some ⟨w.heap.size, 0, none⟩) (n + m) (grownCap w (n + m) old e)) (n + m) (cs ++ news) := by
    intro old ho
    have hge := grownCap_ge w (n + m) old e
    have hcm : grownCap w (n + m) old e ≤ maxLen := grownCap_le_maxLen w (n + m) old e h63
    refine ⟨hlen, .inr ⟨w.heap.size, _, _, rfl, Nat.zero_le _, heap_alloc_new w.drew _, hge, hcm, ?_, ?_⟩⟩
    · simp only [Array.size_append, List.size_toArray, size_zeroCells, hzs, hown.1, hl, ← Nat.add_mul]
      congr 1
      omega
    · simp only [Array.toList_append, List.append_assoc]
      rw [← List.append_assoc, ← hlen]
      exact List.take_left
  have modA : ∀ o : Obj, Mod (fun b => v.ownBlock = some b) w (w.drew.alloc o) := fun o =>
    ⟨rfl, rfl, rfl, by simp, fun b hb _ => heap_alloc_old w.drew o hb, Nat.le_succ _⟩
  rcases hown.2 with ⟨rfl, rfl⟩ | ⟨g, cap, cur, rfl, _, hg, hnc, hcm, hcs, htake⟩
  · have hx : cs = [] := List.eq_nil_of_length_eq_zero (by simpa using hown.1)
    subst hx
    by_cases hm : m = 0
    · subst hm
      have hn : news = [] := List.eq_nil_of_length_eq_zero (by simpa using hl)
      subst hn
      refine ⟨.slice none 0 0, w, ?_, World.ownsRow_nil w 0 e i.size, Mod.refl _ _, fun b hb => .inl hb⟩
      simp [Builtin.append_, run_underlying ht, Go.sizeOf, typeInfo, hi, Builtin.lenOf, Builtin.firstCells, loadCells, loadCellsFrom]
    · have hr := run_append_nil (P := P) w t ty e i z ht hi hz a m m' news hl hnews (by omega) (by omega) (by have hb := hb; simp only [Nat.zero_add] at hb; omega)
      have hgr := grown 0 (by omega)
      simp only [Nat.zero_add, List.nil_append, Array.empty_append] at hgr ⊢
      exact ⟨_, _, hr, hgr, modA _, fun b hb => .inr (by simp [Value.ownBlock] at hb; omega)⟩
  · by_cases hroom : n + m ≤ cap
    · have hfit : n * i.size + news.length ≤ cur.size := by rw [hl, hcs, ← Nat.add_mul]; exact Nat.mul_le_mul_right _ hroom
      have hr := run_append_room (P := P) w t ty e i ht hi g n cap cur hg a m m' news hl hnews h1 hroom hfit
      refine ⟨_, _, hr, ⟨hlen, .inr ⟨g, cap, _, rfl, Nat.zero_le _, setRow_heap w g cur _ e _ hg, hroom, hcm, ?_, ?_⟩⟩, ⟨rfl, rfl, rfl, by simp, fun k _ hk => setRow_other w g k _ (fun e => hk (by simp [Value.ownBlock, e])), Nat.le_refl _⟩, fun b hb => .inl hb⟩
      · simp only [List.size_toArray, List.length_append, List.length_take, List.length_drop, Array.length_toList]
        omega
      · rw [htake, ← hlen]
        exact List.take_left
    · have holds : ∀ j u, cs[j]? = some u → w.cell? ((⟨g, 0, none⟩ : Addr).add j) = some u := hown.cells (g := g) rfl
      have hr := run_append_grow (P := P) w t ty e i z ht hi hz ⟨g, 0, none⟩ n cap cs hown.1 holds a m m' news hl hnews (by omega) (by omega) (growslice_fits (by omega) hb)
      exact ⟨_, _, hr, grown cap (by omega), modA _, fun b hb => .inr (by simp [Value.ownBlock] at hb; omega)⟩

theorem SlAt.of_blk {w : World} {b : Nat} {c : Array Value} {e : TypeId} {fz : Nat × Nat} {n size : Nat} (h : w.heap[b]? = some (.cells c e fz)) (hs : c.size = n * size) (hn : n ≤ maxLen) :
    SlAt size (.slice (some ⟨b, 0, none⟩) n n) n c.toList w :=
  .inr ⟨b, 0, n, c, e, fz, rfl, Nat.le_refl _, hn, h, by omega, by simpa using hs, fun j _ => by simp⟩

/-- append onto a slice of one's own -/
theorem Mem.append {P : Program} {F X : Nat → Prop} {w0 w : World} {L : List Chunk} {R : List (World → Prop)} {ρ : Env} {d : Option Nat} {pos : String} {aft : Array Edge} {g : Option (Nat × Bool)} {t ty e : TypeId} {z : Value} {size bytes : Nat} {x y : Operand}
    {v sv : Value} {n m : Nat} {cs news : List Value} (M : Mem F X w0 L R w) (i : Nat) (ht : Und P t (.slice e)) (he : Elem P e z size bytes) (hzs : z.cells.size = size) (hsz : 0 < size)
    (hx : ρ.ev x = v) (hy : ρ.ev y = sv) (hi : L[i]? = some (Tp.own e size v n cs)) (hsrc : SlAt size sv m news w) (h1 : ∀ u, u ∈ news → u.oneCell' = true)
    (h63 : n + m ≤ maxLen) (hb : (n + m) * bytes ≤ 140737488355328) :
    Does P ⟨d, .call { callee := .builtin .append, args := #[x, y], argTypes := #[t, t] }, ty, pos, aft, g⟩ ρ w fun v' w' =>
      (Tp.own e size v' (n + m) (cs ++ news)).Ok w' ∧ Mod (Tp.own e size v n cs).foot w w' ∧ Mem F X w0 (L.set i (Tp.own e size v' (n + m) (cs ++ news))) R w' := by
  have hown : w.ownsRow 0 e size v n cs := (M.chunk i hi).inv
  obtain ⟨v', w', hr, h2, h3, h4⟩ := append_run (ty := ty) ht he hzs hsz hown hsrc h1 h63 hb
  refine .inl ⟨v', w', fun d pos aft g => .inl ?_, own_ok h2, h3, M.turn i hi h3 (own_ok h2) h4⟩
  simp only [execOp, resolve, invoke, builtin, Sem.run_bind, Sem.run_pure, Result.andThen_ok, List.map_toArray, List.map_cons, List.map_nil, hx, hy, hr]
end Tp
