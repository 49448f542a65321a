/- Cutting out of slices of one's own; what is cleared; append to what is clipped. -/
import Derived.Test.YtlehkjkpgmkbiaaTrRange
set_option linter.all false
namespace Tp
open Go

theorem vTake_eq {i n cap : Nat} {a : Option Addr} : vTake i (.slice a n cap) = .slice a i cap := rfl
theorem vSlice_cap {size l h n cap g o : Nat} : vSlice size l h (vCap (.slice (some ⟨g, o, none⟩) n cap)) (.slice (some ⟨g, o, none⟩) n cap) = .slice (if cap = l then some ⟨g, o, none⟩ else some ⟨g, o + l * size, none⟩) (h - l) (cap - l) := by
  simp [vSlice, vCap, addr_add_none]
def vClip : Value → Value
  | .slice a n _ => .slice a n n
  | v => v
theorem mem_zeroCells {zs : Array Value} {m : Nat} {u : Value} (h : u ∈ (Builtin.zeroCells zs m).toList) : u ∈ zs.toList := by
  unfold Builtin.zeroCells at h
  simp only [Array.toList_map, List.mem_map, Array.mem_toList_iff, Array.mem_range] at h
  obtain ⟨i, hi, rfl⟩ := h
  have hs : 0 < zs.size := by
    rcases Nat.eq_zero_or_pos zs.size with h0 | h0
    · rw [h0] at hi; simp at hi
    · exact h0
  have hlt := Nat.mod_lt i hs
  rw [getElem!_pos zs _ hlt]
  simp

section
variable {P : Program} {w : World} {t ty e : TypeId} {z : Value} {size bytes n : Nat} {v : Value} {cs : List Value}
theorem append_cut_run (ht : Und P t (.slice e)) (he : Elem P e z size bytes) (hown : w.ownsRow 0 e size v n cs) {a b : Nat} (hab : a ≤ b) (hb : b ≤ n) (hn : 0 < n) (h1 : ∀ u, u ∈ cs → u.oneCell' = true) :
    ∃ w', (Builtin.append_ #[t, t] ty #[vTake a v, vSlice size b n (vCap v) v]).run P w = .ok (vTake (a + (n - b)) v) w' ∧ w'.ownsRow 0 e size (vTake (a + (n - b)) v) (a + (n - b)) (cs.take (a * size) ++ cs.drop (b * size)) ∧ Mod (fun x => v.ownBlock = some x) w w' := by
  obtain ⟨i, hi, hz, hs, hby⟩ := he
  subst hs
  have hsl := own_slAt hown
  rcases hown.2 with ⟨_, rfl⟩ | ⟨g, cap, cur, rfl, h0, hg, hnc, hcm, hcs, htake⟩
  · omega
  have hlen := hown.1
  have e1 : b * i.size + (n - b) * i.size = n * i.size := by rw [← Nat.add_mul]; congr 1; omega
  have e2 : a * i.size ≤ b * i.size := Nat.mul_le_mul_right _ hab
  have e3 : n * i.size ≤ cap * i.size := Nat.mul_le_mul_right _ hnc
  have e4 : (a + (n - b)) * i.size = a * i.size + (n - b) * i.size := Nat.add_mul ..
  have hnews : (cs.drop (b * i.size)).length = (n - b) * i.size := by rw [List.length_drop, hlen]; omega
  have hread : ∀ (ad : Addr), ((n - b = 0) ∨ ad = ⟨g, b * i.size, none⟩) → ∀ j u, (cs.drop (b * i.size))[j]? = some u → w.cell? (ad.add j) = some u := by
    intro ad had j u hu
    have hj := (List.getElem?_eq_some_iff.1 hu).1
    rw [hnews] at hj
    rcases had with h0 | rfl
    · rw [h0] at hj; simp at hj
    · rw [addr_add_none, cell_blk hg, ← Array.getElem?_toList]
      rw [List.getElem?_drop] at hu
      rw [← htake, List.getElem?_take, if_pos (by omega)] at hu
      exact hu
  have hrun : ∀ ad : Addr, ((n - b = 0) ∨ ad = ⟨g, b * i.size, none⟩) → (Builtin.append_ #[t, t] ty #[.slice (some ⟨g, 0, none⟩) a cap, .slice (some ad) (n - b) (cap - b)]).run P w =
      .ok (.slice (some ⟨g, 0, none⟩) (a + (n - b)) cap) (w.setRow g (cur.toList.take (a * i.size) ++ cs.drop (b * i.size) ++ cur.toList.drop (a * i.size + (cs.drop (b * i.size)).length)).toArray) := fun ad had =>
    run_append_room (P := P) w t ty e i ht hi g a cap cur hg ad (n - b) (cap - b) (cs.drop (b * i.size)) hnews (hread ad had) (fun u hu => h1 u (List.mem_of_mem_drop hu)) (by omega) (by rw [hnews, hcs]; omega)
  obtain ⟨row, hrow⟩ : ∃ row : Array Value, row = (cur.toList.take (a * i.size) ++ cs.drop (b * i.size) ++ cur.toList.drop (a * i.size + (cs.drop (b * i.size)).length)).toArray := ⟨_, rfl⟩
  rw [← hrow] at hrun
  refine ⟨w.setRow g row, ?_, ⟨?_, .inr ⟨g, cap, row, rfl, Nat.zero_le _, setRow_heap w g cur row e _ hg, by omega, hcm, ?_, ?_⟩⟩, ⟨rfl, rfl, rfl, by simp, fun k _ hk => setRow_other w g k row (fun e => hk (by simp [Value.ownBlock, e]))⟩⟩
  · rw [vSlice_cap]
    simp only [vTake_eq]
    by_cases ec : cap = b
    · rw [if_pos ec]; exact hrun _ (.inl (by omega))
    · rw [if_neg ec, Nat.zero_add]; exact hrun _ (.inr rfl)
  · rw [List.length_append, List.length_take, hnews, hlen, Nat.min_eq_left (by omega), e4]
  · rw [hrow]
    simp only [List.size_toArray, List.length_append, List.length_take, List.length_drop, Array.length_toList]
    rw [hlen, hcs]
    omega
  · have hta : cs.take (a * i.size) = cur.toList.take (a * i.size) := by rw [← htake, List.take_take, Nat.min_eq_left (by omega)]
    rw [hta]
    have hl2 : (cur.toList.take (a * i.size) ++ cs.drop (b * i.size)).length = (a + (n - b)) * i.size := by
      rw [List.length_append, List.length_take, hnews, Array.length_toList, hcs, Nat.min_eq_left (by omega), e4]
    rw [hrow, ← hl2]
    exact List.take_left

theorem clear_run (ht : Und P t (.slice e)) (he : Elem P e z size bytes) (hzs : z.cells.size = size) (hc : Step.Cellish z.cells.toList) {g o m c : Nat} {cur : Array Value} (hg : w.heap[g]? = some (.cells cur e (0, 0))) (hfit : o + m * size ≤ cur.size) :
    ∃ (zs : List Value) (w' : World), zs.length = m * size ∧ (Builtin.clear_ #[t] ty #[.slice (some ⟨g, o, none⟩) m c]).run P w = .ok (.tuple #[]) w' ∧ w' = World.blkSet w g (.cells (Step.put cur o zs) e) := by
  refine ⟨(Builtin.zeroCells z.cells m).toList, _, by rw [Array.length_toList, size_zeroCells, hzs], ?_, rfl⟩
  have hst := Step.storeCells_run (P := P) (b := g) (o := o) (e := e) (Builtin.zeroCells z.cells m).toList 0 cur w hg (by rw [Array.length_toList, size_zeroCells, hzs]; omega) (fun u hu => hc u (mem_zeroCells hu))
  rw [Nat.add_zero] at hst
  cases m with
  | zero =>
    have e0 : Builtin.zeroCells z.cells 0 = #[] := by
      apply Array.eq_empty_of_size_eq_zero; rw [size_zeroCells]; simp
    rw [e0] at hst ⊢
    simp only [Builtin.clear_, ht.run, Sem.run_bind, Result.andThen_ok, Sem.run_pure]
    have hw : World.blkSet w g (.cells (Step.put cur o ([] : List Value)) e) = w := by
      have := hst
      simp [storeCells] at this
      exact this.symm
    simp only [Array.toList_empty] at *
    first
      | (simp [Builtin.clear_, ht.run, hw]; done)
      | (rw [hw]; simp [Builtin.clear_, ht.run])
  | succ m =>
    simp [Builtin.clear_, ht.run, he.zero w, hst]
theorem put_other (c : Array Value) (o : Nat) (l : List Value) {k : Nat} (hk : k < o ∨ o + l.length ≤ k) : (Step.put c o l)[k]? = c[k]? := by
  induction l generalizing c o with
  | nil => rfl
  | cons v l ih =>
    rw [Step.put, ih _ _ (by simp at hk; omega), Array.getElem?_setIfInBounds_ne (by simp at hk; omega)]
theorem own_clear (ht : Und P t (.slice e)) (he : Elem P e z size bytes) (hzs : z.cells.size = size) (hc : Step.Cellish z.cells.toList) (hown : w.ownsRow 0 e size v n cs) {l h m : Nat} (hlh : l ≤ h) (hm : h ≤ vCap v) (hn : 0 < vCap v ∨ l < h) (hv : 0 < n ∨ v ≠ .slice none 0 0) (k : Nat) (hkn : k ≤ n) (hkl : k ≤ l) :
    ∃ w', (Builtin.clear_ #[t] ty #[vSlice size l h (vCap v) v]).run P w = .ok (.tuple #[]) w' ∧ w'.ownsRow 0 e size (vTake k v) k (cs.take (k * size)) ∧ Mod (fun x => v.ownBlock = some x) w w' := by
  rcases hown.2 with ⟨h1, rfl⟩ | ⟨g, cap, cur, rfl, h0, hg, hnc, hcm, hcs, htake⟩
  · rcases hv with hv | hv
    · omega
    · exact absurd h1 hv
  have hlen := hown.1
  have hcap : h ≤ cap := hm
  have e0 : l * size + (h - l) * size = h * size := by rw [← Nat.add_mul]; congr 1; omega
  have e1 : h * size ≤ cap * size := Nat.mul_le_mul_right _ hcap
  have e2 : k * size ≤ l * size := Nat.mul_le_mul_right _ hkl
  have e3 : k * size ≤ n * size := Nat.mul_le_mul_right _ hkn
  have e4 : n * size ≤ cap * size := Nat.mul_le_mul_right _ hnc
  have key : ∀ o, (h - l = 0 ∨ o = l * size) → ∃ w', (Builtin.clear_ #[t] ty #[.slice (some ⟨g, o, none⟩) (h - l) (cap - l)]).run P w = .ok (.tuple #[]) w' ∧ w'.ownsRow 0 e size (.slice (some ⟨g, 0, none⟩) k cap) k (cs.take (k * size)) ∧ Mod (fun x => (Value.slice (some ⟨g, 0, none⟩) n cap).ownBlock = some x) w w' := by
    intro o ho
    by_cases hz0 : h - l = 0
    · refine ⟨w, ?_, ⟨by rw [List.length_take, hlen]; omega, .inr ⟨g, cap, cur, rfl, Nat.zero_le _, hg, by omega, hcm, hcs, by rw [← htake, List.take_take, Nat.min_eq_left e3]⟩⟩, Mod.refl _ _⟩
      rw [hz0]; simp [Builtin.clear_, ht.run]
    · obtain rfl : o = l * size := ho.resolve_left hz0
      obtain ⟨zs, w', hzl, hr, rfl⟩ := clear_run (P := P) (ty := ty) ht he hzs hc (m := h - l) (c := cap - l) (o := l * size) hg (by rw [hcs]; omega)
      refine ⟨_, hr, ⟨by rw [List.length_take, hlen]; omega, .inr ⟨g, cap, _, rfl, Nat.zero_le _, blkSet_at _ (lt_of_blk hg), by omega, hcm, by rw [Step.put_size]; exact hcs, ?_⟩⟩, (blkSet_mod w g _).mono fun x _ hx => by simp [Value.ownBlock]; exact hx.symm⟩
      rw [← htake, List.take_take, Nat.min_eq_left e3]
      apply List.ext_getElem?
      intro j
      rw [List.getElem?_take, List.getElem?_take]
      split
      · rw [Array.getElem?_toList, Array.getElem?_toList, put_other _ _ _ (.inl (by omega))]
      · rfl
  rw [vSlice_cap]
  simp only [vTake_eq]
  by_cases ec : cap = l
  · rw [if_pos ec]; exact key 0 (.inl (by omega))
  · rw [if_neg ec, Nat.zero_add]; exact key _ (.inr rfl)

end

section
variable {P : Program} {F X : Nat → Prop} {w w0 : World} {L : List Chunk} {R : List (World → Prop)} {ρ : Env} {d : Option Nat} {pos : String} {aft : Array Edge} {g : Option (Nat × Bool)} {t ty e : TypeId} {z : Value} {size bytes : Nat} {x y : Operand} {v : Value} {n : Nat} {cs : List Value}
/-- append(s[:a], s[b:]...) -/
theorem Mem.appendCut {a b : Nat} (M : Mem F X w0 L R w) (i : Nat) (hi : L[i]? = some (Tp.own e size v n cs)) (ht : Und P t (.slice e)) (he : Elem P e z size bytes) (hx : ρ.ev x = vTake a v) (hy : ρ.ev y = vSlice size b n (vCap v) v)
    (hab : a ≤ b) (hb : b ≤ n) (hn : 0 < n) (h1 : ∀ u, u ∈ cs → u.oneCell' = true) :
    ∃ w', Step P (.call { callee := .builtin .append, args := #[x, y], argTypes := #[t, t] }) ty ρ w (vTake (a + (n - b)) v) w' ∧ Mem F X w0 (L.set i (Tp.own e size (vTake (a + (n - b)) v) (a + (n - b)) (cs.take (a * size) ++ cs.drop (b * size)))) R w' ∧ Mod (Tp.own e size v n cs).foot w w' := by
  obtain ⟨w', hr, h2, h3⟩ := append_cut_run (ty := ty) ht he (M.chunk i hi).inv hab hb hn h1
  refine ⟨w', fun d pos aft g => .inl ?_, M.turn i hi h3 (own_ok h2) fun b hb => .inl ?_, h3⟩
  · simp only [execOp, resolve, invoke, builtin, Sem.run_bind, Sem.run_pure, Result.andThen_ok, List.map_toArray, List.map_cons, List.map_nil, hx, hy, hr]
  · obtain ⟨ad, cap, rfl⟩ := (own_slAt (M.chunk i hi).inv).value
    cases ad <;> first | (simpa [Tp.own, vTake, Value.ownBlock] using hb) | (simp [Tp.own, vTake, Value.ownBlock] at hb)
/-- clear(s[l:h]), of which the first k are of interest -/
theorem Mem.clearKeep {l h k : Nat} (M : Mem F X w0 L R w) (i : Nat) (hi : L[i]? = some (Tp.own e size v n cs)) (ht : Und P t (.slice e)) (he : Elem P e z size bytes) (hzs : z.cells.size = size) (hc : Step.Cellish z.cells.toList)
    (hx : ρ.ev x = vSlice size l h (vCap v) v) (hlh : l ≤ h) (hm : h ≤ vCap v) (hn : 0 < vCap v) (hv : v ≠ .slice none 0 0) (hkn : k ≤ n) (hkl : k ≤ l) :
    ∃ w', Step P (.call { callee := .builtin .clear, args := #[x], argTypes := #[t] }) ty ρ w undef w' ∧ Mem F X w0 (L.set i (Tp.own e size (vTake k v) k (cs.take (k * size)))) R w' ∧ Mod (Tp.own e size v n cs).foot w w' := by
  obtain ⟨w', hr, h2, h3⟩ := own_clear (ty := ty) (m := 0) ht he hzs hc (M.chunk i hi).inv hlh hm (.inl hn) (.inr hv) k hkn hkl
  refine ⟨w', fun d pos aft g => .inl ?_, M.turn i hi h3 (own_ok h2) fun b hb => .inl ?_, h3⟩
  · simp only [execOp, resolve, invoke, builtin, Sem.run_bind, Sem.run_pure, Result.andThen_ok, List.map_toArray, List.map_cons, List.map_nil, hx, hr]
    rfl
  · obtain ⟨ad, cap, rfl⟩ := (own_slAt (M.chunk i hi).inv).value
    cases ad <;> first | (simpa [Tp.own, vTake, Value.ownBlock] using hb) | (simp [Tp.own, vTake, Value.ownBlock] at hb)
end
section
variable {P : Program} {ops : Array Oper} {ld mk : List Nat} {Q : Env → World → Prop} {i : Nat} {d : Option Nat} {op : Op} {ty : TypeId} {pos : String} {aft : Array Edge} {g : Option (Nat × Bool)}
  {rest : List Nat} {ρ : Env} {F X : Nat → Prop} {w0 : World} {Lp L : List Chunk} {Rp R : List (World → Prop)}
end

/-! ### Shapes of slices -/
def Shp (v : Value) (n : Nat) : Prop := ∃ a, v = .slice a n (vCap v) ∧ n ≤ vCap v ∧ vCap v ≤ maxLen
theorem SlAt.shp {size n : Nat} {v : Value} {cs : List Value} {w : World} (h : SlAt size v n cs w) : Shp v n := by
  rcases h with ⟨⟨a, rfl⟩, rfl, _⟩ | ⟨b, o, cap, _, _, _, rfl, h, h', _⟩
  · exact ⟨a, rfl, Nat.le_refl _, Nat.zero_le _⟩
  · exact ⟨_, rfl, h, h'⟩
theorem Shp.take {v : Value} {n k : Nat} (h : Shp v n) (hk : k ≤ vCap v) : Shp (vTake k v) k := by
  obtain ⟨a, e, _, h3⟩ := h
  rw [e] at hk h3 ⊢
  exact ⟨a, rfl, hk, h3⟩
theorem Shp.cap {v : Value} {n k : Nat} (h : Shp v n) : vCap (vTake k v) = vCap v := by
  obtain ⟨a, e, _⟩ := h
  rw [e]; rfl
theorem Shp.isSl {v : Value} {n : Nat} (h : Shp v n) : IsSl v := let ⟨a, e, _⟩ := h; ⟨a, n, _, e⟩
theorem Shp.self {v : Value} {n : Nat} (h : Shp v n) : vTake n v = v := by
  obtain ⟨a, e, _⟩ := h
  rw [e]; rfl
theorem Shp.ne {v : Value} {n : Nat} (h : Shp v n) (hn : 0 < vCap v) : v ≠ .slice none 0 0 := fun e => by rw [e] at hn; simp [vCap] at hn
namespace Step
variable {P : Program} {ρ : Env} {w : World} {ty t e : TypeId} {x a b c : Operand} {v : Value} {size n l h m : Nat} {k k' k'' : IntKind} {z z' z'' : Int}
theorem sliceToP (ht : Und P t (.slice e)) (hs : Sized P e size) (hx : ρ.ev x = v) (hj : ρ.ev b = .int k' z') (hz' : z' = (h : Int)) (hv : Shp v n) (hc : h ≤ vCap v) : Step P (.slice t x none (some b) none) ty ρ w (vTake h v) w := by
  obtain ⟨ad, e, _⟩ := hv
  have := sliceH (ty := ty) (w := w) ht hs hx hj hz' e hc
  rw [e] at this ⊢
  exact this
theorem sliceFromP (ht : Und P t (.slice e)) (hs : Sized P e size) (hx : ρ.ev x = v) (hi : ρ.ev a = .int k z) (hz : z = (l : Int)) (hv : Shp v n) (hle : l ≤ n) : Step P (.slice t x (some a) none none) ty ρ w (vSlice size l n (vCap v) v) w := by
  obtain ⟨ad, e, _⟩ := hv
  exact sliceFrom ht hs hx hi hz e hle
theorem sliceLHP (ht : Und P t (.slice e)) (hs : Sized P e size) (hx : ρ.ev x = v) (hi : ρ.ev a = .int k z) (hz : z = (l : Int)) (hj : ρ.ev b = .int k' z') (hz' : z' = (h : Int)) (hv : Shp v n) (hle : l ≤ h) (hc : h ≤ vCap v) :
    Step P (.slice t x (some a) (some b) none) ty ρ w (vSlice size l h (vCap v) v) w := by
  obtain ⟨ad, e, _⟩ := hv
  exact sliceLH ht hs hx hi hz hj hz' e hle hc
/-- s[l:h:m] -/
theorem slice4P (ht : Und P t (.slice e)) (hs : Sized P e size) (hx : ρ.ev x = v) (hi : ρ.ev a = .int k z) (hz : z = (l : Int)) (hj : ρ.ev b = .int k' z') (hz' : z' = (h : Int)) (hm : ρ.ev c = .int k'' z'') (hz'' : z'' = (m : Int)) (hv : Shp v n) (hle : l ≤ h) (hlm : h ≤ m) (hc : m ≤ vCap v) :
    Step P (.slice t x (some a) (some b) (some c)) ty ρ w (vSlice size l h m v) w := by
  obtain ⟨ad, e, _⟩ := hv
  intro d pos aft g
  left
  subst hz; subst hz'; subst hz''
  generalize vCap v = cap at e hc
  subst e
  have h1 : (0 : Int) ≤ l ∧ (l : Int) ≤ h := ⟨by omega, by omega⟩
  have h2 : (0 : Int) ≤ h ∧ (h : Int) ≤ m := ⟨by omega, by omega⟩
  have h3 : (0 : Int) ≤ m ∧ (m : Int) ≤ cap := ⟨by omega, by omega⟩
  have h4 : ¬ (cap < m) := by omega
  have h5 : ¬ (m < h) := by omega
  have h6 : ¬ (h < l) := by omega
  simp [execOp, Instr.sliceAt, Instr.slice, hx, hi, hj, hm, ht.run, Instr.sliceBounds, Instr.sliceBound, asIntOf, hs w, h1, h2, h3, h4, h5, h6, vSlice, hle, hlm, hc]
  try rfl
end Step
section
variable {α : Type} {enc : α → List Value} {P : Program} {F X : Nat → Prop} {w w0 : World} {L : List Chunk} {R : List (World → Prop)} {ρ : Env} {t ty e : TypeId} {z : Value} {size bytes : Nat} {x y : Operand} {v : Value} {xs : List α}
theorem Mem.appendCutF (he : ∀ x, (enc x).length = size) {a b : Nat} (M : Mem F X w0 L R w) (i : Nat) (hi : L[i]? = some (Tp.own e size v xs.length (xs.flatMap enc))) (ht : Und P t (.slice e)) (hel : Elem P e z size bytes) (hx : ρ.ev x = vTake a v) (hy : ρ.ev y = vSlice size b xs.length (vCap v) v)
    (hab : a ≤ b) (hb : b ≤ xs.length) (hn : 0 < xs.length) (h1 : ∀ x, Step.Cellish (enc x)) :
    ∃ w', Step P (.call { callee := .builtin .append, args := #[x, y], argTypes := #[t, t] }) ty ρ w (vTake (a + (xs.length - b)) v) w' ∧ Mem F X w0 (L.set i (Tp.own e size (vTake (a + (xs.length - b)) v) (xs.take a ++ xs.drop b).length ((xs.take a ++ xs.drop b).flatMap enc))) R w' ∧ Mod (Tp.own e size v xs.length (xs.flatMap enc)).foot w w' := by
  obtain ⟨w', h2, h3, h4⟩ := M.appendCut (ty := ty) i hi ht hel hx hy hab hb hn (cel_flatMap h1 xs).one
  refine ⟨w', h2, ?_, h4⟩
  rw [take_flatMap he, drop_flatMap he, ← List.flatMap_append] at h3
  have : (xs.take a ++ xs.drop b).length = a + (xs.length - b) := by simp; omega
  rw [this]; exact h3
/-- clear(s[l:h]) behind the elements -/
theorem Mem.clearTailF (he : ∀ x, (enc x).length = size) {l h : Nat} (M : Mem F X w0 L R w) (i : Nat) (hi : L[i]? = some (Tp.own e size v xs.length (xs.flatMap enc))) (ht : Und P t (.slice e)) (hel : Elem P e z size bytes) (hzs : z.cells.size = size) (hc : Step.Cellish z.cells.toList)
    (hx : ρ.ev x = vSlice size l h (vCap v) v) (hlh : l ≤ h) (hm : h ≤ vCap v) (hn : 0 < vCap v) (hkl : xs.length ≤ l) :
    ∃ w', Step P (.call { callee := .builtin .clear, args := #[x], argTypes := #[t] }) ty ρ w undef w' ∧ Mem F X w0 (L.set i (Tp.own e size v xs.length (xs.flatMap enc))) R w' ∧ Mod (Tp.own e size v xs.length (xs.flatMap enc)).foot w w' := by
  have hs := (own_slAt (M.chunk i hi).inv).shp
  obtain ⟨w', h2, h3, h4⟩ := M.clearKeep (ty := ty) (k := xs.length) i hi ht hel hzs hc hx hlh hm hn (hs.ne hn) (Nat.le_refl _) hkl
  refine ⟨w', h2, ?_, h4⟩
  rw [hs.self, ← length_flatMap he, List.take_length] at h3
  exact h3
/-- clear(s[k:]), of which s[:k] is kept -/
theorem Mem.clearCutF (he : ∀ x, (enc x).length = size) {k : Nat} (M : Mem F X w0 L R w) (i : Nat) (hi : L[i]? = some (Tp.own e size v xs.length (xs.flatMap enc))) (ht : Und P t (.slice e)) (hel : Elem P e z size bytes) (hzs : z.cells.size = size) (hc : Step.Cellish z.cells.toList)
    (hx : ρ.ev x = vSlice size k xs.length (vCap v) v) (hk : k ≤ xs.length) (hn : 0 < xs.length) :
    ∃ w', Step P (.call { callee := .builtin .clear, args := #[x], argTypes := #[t] }) ty ρ w undef w' ∧ Mem F X w0 (L.set i (Tp.own e size (vTake k v) (xs.take k).length ((xs.take k).flatMap enc))) R w' ∧ Mod (Tp.own e size v xs.length (xs.flatMap enc)).foot w w' := by
  have hs := (own_slAt (M.chunk i hi).inv).shp
  obtain ⟨_, _, hcap, _⟩ := id hs
  obtain ⟨w', h2, h3, h4⟩ := M.clearKeep (ty := ty) (k := k) i hi ht hel hzs hc hx hk hcap (by omega) (hs.ne (by omega)) hk (Nat.le_refl _)
  refine ⟨w', h2, ?_, h4⟩
  rw [take_flatMap he] at h3
  have : (xs.take k).length = k := by simp; omega
  rw [this]; exact h3
end
/-! ### Where an element first is -/
def ixF {α : Type} (p : α → Bool) (xs : List α) : Int := match xs.findIdx? p with
  | some i => (i : Int)
  | none => -1
def ixN {α : Type} (p : α → Bool) (xs : List α) : Nat := match xs.findIdx? p with
  | some i => i + 1
  | none => xs.length
section
variable {α : Type} {p : α → Bool} {xs : List α} {i : Nat} {x : α}
theorem findIdx_hit (hi : xs[i]? = some x) (hp : p x = true) (hb : ∀ j u, j < i → xs[j]? = some u → p u = false) : xs.findIdx? p = some i := by
  obtain ⟨h1, h2⟩ := List.getElem?_eq_some_iff.1 hi
  rw [List.findIdx?_eq_some_iff_getElem]
  refine ⟨h1, by rw [h2]; exact hp, fun j hj => ?_⟩
  have := hb j xs[j] hj (List.getElem?_eq_getElem _)
  simp [this]
theorem findIdx_none (hb : ∀ j u, j < i → xs[j]? = some u → p u = false) (hi : xs.length ≤ i) : xs.findIdx? p = none := by
  rw [List.findIdx?_eq_none_iff]
  intro x hx
  obtain ⟨j, hj⟩ := List.getElem?_of_mem hx
  exact hb j x (by have := (List.getElem?_eq_some_iff.1 hj).1; omega) hj
theorem below_stepG (hb : ∀ j u, j < i → xs[j]? = some u → p u = false) (hi : xs[i]? = some x) (hp : p x = false) : ∀ j u, j < i + 1 → xs[j]? = some u → p u = false := fun j u hj hu => by
  rcases Nat.lt_or_ge j i with h | h
  · exact hb j u h hu
  · have : j = i := by omega
    subst this; rw [hi] at hu; cases hu; exact hp
end
end Tp
namespace Tp
open Go
section
variable {α : Type} {p : α → Bool} {xs ys : List α} {i j : Nat} {x : α}
theorem ixF_none (h : xs.findIdx? p = none) : ixF p xs = -1 ∧ ixN p xs = xs.length := by unfold ixF ixN; rw [h]; exact ⟨rfl, rfl⟩
theorem ixF_some (h : xs.findIdx? p = some i) : ixF p xs = (i : Int) ∧ ixN p xs = i + 1 := by unfold ixF ixN; rw [h]; exact ⟨rfl, rfl⟩
theorem findIdx_some_at (h : xs.findIdx? p = some i) : i < xs.length ∧ (∃ x, xs[i]? = some x ∧ p x = true) ∧ ∀ j u, j < i → xs[j]? = some u → p u = false := by
  rw [List.findIdx?_eq_some_iff_getElem] at h
  obtain ⟨h1, h2, h3⟩ := h
  refine ⟨h1, ⟨_, List.getElem?_eq_getElem h1, h2⟩, fun j u hj hu => ?_⟩
  have := h3 j hj
  rw [(List.getElem?_eq_some_iff.1 hu).2] at this
  simpa using this
theorem filter_take_below (hb : ∀ j u, j < i → xs[j]? = some u → p u = false) (hi : i ≤ xs.length) : (xs.take i).filter (fun x => !p x) = xs.take i := by
  rw [List.filter_eq_self]
  intro a ha
  obtain ⟨j, hj⟩ := List.getElem?_of_mem ha
  rw [List.getElem?_take] at hj
  split at hj
  · rename_i hlt; rw [hb j a hlt hj]; rfl
  · cases hj
theorem filter_take_hit (hb : ∀ j u, j < i → xs[j]? = some u → p u = false) (hx : xs[i]? = some x) (hp : p x = true) : xs.take i = (xs.take (i + 1)).filter (fun x => !p x) := by
  have hi : i < xs.length := (List.getElem?_eq_some_iff.1 hx).1
  rw [← take_snoc hx, List.filter_append, filter_take_below hb (by omega)]
  simp [hp]
theorem filter_none (h : xs.findIdx? p = none) : xs.filter (fun x => !p x) = xs := by
  rw [List.findIdx?_eq_none_iff] at h
  rw [List.filter_eq_self]
  intro a ha
  rw [h a ha]; rfl
theorem del_elem (hd : ys.drop j = xs.drop j) (hx : ys[j]? = some x) : xs[j]? = some x := by
  have h1 : (ys.drop j)[0]? = some x := by rw [List.getElem?_drop]; exact hx
  rw [hd, List.getElem?_drop] at h1; exact h1
theorem del_keep (hl : ys.length = xs.length) (ht : ys.take i = (xs.take j).filter (fun x => !p x)) (hx : xs[j]? = some x) (hij : i < j) (hp : p x = false) : (ys.set i x).take (i + 1) = (xs.take (j + 1)).filter (fun x => !p x) := by
  have hj : j < xs.length := (List.getElem?_eq_some_iff.1 hx).1
  have e1 : (ys.set i x)[i]? = some x := by rw [List.getElem?_set]; simp; omega
  rw [← take_snoc e1, List.take_set_of_le (Nat.le_refl _), ht, ← take_snoc hx, List.filter_append]
  simp [hp]
theorem del_drop (hx : xs[j]? = some x) (ht : ys.take i = (xs.take j).filter (fun x => !p x)) (hp : p x = true) : ys.take i = (xs.take (j + 1)).filter (fun x => !p x) := by
  rw [ht, ← take_snoc hx, List.filter_append]; simp [hp]
theorem drop_step (hd : ys.drop j = xs.drop j) : ys.drop (j + 1) = xs.drop (j + 1) := by
  rw [← List.drop_drop, ← List.drop_drop, hd]
theorem drop_step_set (hd : ys.drop j = xs.drop j) (hij : i < j) : (ys.set i x).drop (j + 1) = xs.drop (j + 1) := by
  rw [List.drop_set_of_lt (by omega)]; exact drop_step hd
end
end Tp
namespace Tp
open Go
theorem Mem.law0 {W : World} {R : List (World → Prop)} (h : Facts (fun _ => True) W R) : Mem (fun _ => True) (fun _ => False) W [] R W := Mem.start W h.all
end Tp
