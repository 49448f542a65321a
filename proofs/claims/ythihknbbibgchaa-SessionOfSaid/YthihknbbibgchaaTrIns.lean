/- copy; append of zeros; slices.overlaps; what slices.Insert leaves. -/
import Derived.Test.YthihknbbibgchaaTrSort
import Derived.Test.YthihknbbibgchaaTrDel
import Derived.Lib.AppendZerosOnto
import Derived.Lib.Overlaps
import Derived.Laws.Externs
set_option linter.all false
namespace Tp
open Go
/-- a call of a function of the library that the model tells -/
theorem Step.outer {P : Program} {ρ : Env} {w w' : World} {ty : TypeId} {c : Array Operand} {ts : Array TypeId} {f : FuncId} {args : List Value} {v : Value} (ha : c.toList.map ρ.ev = args) (h : (callFunc f args.toArray).run P w = .ok (.value v) w') :
    Step P (.call { callee := .value (.func f), args := c, argTypes := ts }) ty ρ w v w' := by
  intro d pos aft g
  left
  have hc : c.map ρ.ev = args.toArray := Array.ext' (by rw [Array.toList_map, ha])
  simp only [execOp, resolve, Env.ev, Deferred.ofValue, invoke, hc, Sem.run_bind, Sem.run_pure, Result.andThen_ok, Array.append_empty, Array.empty_append, h]
theorem Step.capS {P : Program} {ρ : Env} {w : World} {ty t e : TypeId} {x : Operand} {v : Value} {n : Nat} (ht : Und P t (.slice e)) (hx : ρ.ev x = v) (hv : Shp v n) :
    Step P (.call { callee := .builtin .cap, args := #[x], argTypes := #[t] }) ty ρ w (.int .i64 (vCap v)) w := by
  obtain ⟨a, e, _⟩ := hv
  intro d pos aft g
  left
  generalize vCap v = c at e
  subst e
  simp [execOp, resolve, invoke, builtin, hx, Builtin.cap_, ht.run]
  rfl
section
variable {P : Program} {w : World} {t tn ty e : TypeId} {z : Value} {size bytes n : Nat} {v : Value} {cs : List Value}
/-- copy into cells of a block of one's own -/
theorem copy_run (ht : Und P t (.slice e)) (hs : Sized P e size) {b off dl dc : Nat} {c : Array Value} {e' : TypeId} {a : Addr} {m mc kk : Nat} {cl : List Value} (hb : w.heap[b]? = some (.cells c e')) (hcl : cl.length = kk * size) (hm : Nat.min m dl = kk)
    (hsrc : ∀ j u, cl[j]? = some u → w.cell? (a.add j) = some u) (hfit : off + cl.length ≤ c.size) (h1 : Step.Cellish cl) :
    (Builtin.copy_ #[t, t] ty #[.slice (some ⟨b, off, none⟩) dl dc, .slice (some a) m mc]).run P w = .ok (goInt kk) (World.blkSet w b (.cells (Step.put c off cl) e')) := by
  have hl := run_loadCells_list (P := P) w a cl hsrc
  rw [hcl] at hl
  have hst := Step.storeCells_run (P := P) (o := off) cl 0 c w hb (by omega) h1
  simp only [Nat.add_zero] at hst
  simp [Builtin.copy_, ht.run, Builtin.lenOf, Builtin.firstCells, hs w, hm, hl, hst]
/-- append(s[:i], make([]T, k)...), where there is no room -/
theorem append_zeros_run {kn : IntKind} (ht : Und P t (.slice e)) (htn : Und P tn (.int kn)) (he : Elem P e z size bytes) (hzs : z.cells.size = size) (hsz : 0 < size) (hown : w.ownsRow 0 e size v n cs) (hn : 0 < n) {i k : Nat} {kq : IntKind} (hin : i ≤ n) (hk : 0 < k) (hg : vCap v < i + k)
    (hik : i + k ≤ maxLen) (hb : (i + k) * bytes ≤ 140737488355328) :
    ∃ v' w' junk, (Builtin.append_ #[t, tn] ty #[vTake i v, .int kq k]).run P w = .ok v' w' ∧ w'.ownsRow 0 e size v' (i + k) (cs.take (i * size) ++ junk) ∧ junk.length = k * size ∧ Old w w' ∧ ∀ b, v'.ownBlock = some b → w.heap.size ≤ b := by
  obtain ⟨inf, hi, hz, hs, hby⟩ := he
  subst hs
  subst hby
  rcases hown.2 with ⟨_, rfl⟩ | ⟨g, cap, cur, rfl, h0, hgb, hnc, hcm, hcs, htake⟩
  · omega
  simp only [vCap] at hg
  have e1 : i * inf.size ≤ n * inf.size := Nat.mul_le_mul_right _ hin
  have e2 : n * inf.size ≤ cap * inf.size := Nat.mul_le_mul_right _ hnc
  have hol : (cs.take (i * inf.size)).length = i * inf.size := by rw [List.length_take, hown.1]; omega
  have hold : (Builtin.firstCells inf.size i (.slice (some ⟨g, 0, none⟩) i cap)).run P w.drew = .ok (cs.take (i * inf.size)).toArray w.drew := by
    have := run_loadCells_list (P := P) w.drew ⟨g, 0, none⟩ (cs.take (i * inf.size)) (fun j u hu => by
      have hj := (List.getElem?_eq_some_iff.1 hu).1
      rw [hol] at hj
      rw [addr_add_none]
      show w.cell? ⟨g, 0 + j, none⟩ = some u
      rw [cell_blk hgb, ← Array.getElem?_toList]
      rw [List.getElem?_take, if_pos hj, ← htake, List.getElem?_take, if_pos (by omega)] at hu
      rw [Nat.zero_add]; exact hu)
    rw [hol] at this
    simpa [Builtin.firstCells] using this
  have hsm : i + k ≤ 9223372036854775807 := by simp only [maxLen] at hik; omega
  have hkb : k * inf.bytes ≤ (i + k) * inf.bytes := Nat.mul_le_mul_right _ (by omega)
  have hr := Go.Lib.run_append_grow_zeros (P := P) w t tn ty e inf z kq kn ht htn hi hz (some ⟨g, 0, none⟩) i cap (cs.take (i * inf.size)) hold k hk hsz hg (by omega) (by omega) (growslice_fits (by omega) hb)
  have hge := grownCap_ge w (i + k) cap e
  have hcm' : grownCap w (i + k) cap e ≤ maxLen := grownCap_le_maxLen w (i + k) cap e hik
  have hjl : (Builtin.zeroCells z.cells k).toList.length = k * inf.size := by rw [Array.length_toList, size_zeroCells, hzs]
  refine ⟨_, _, (Builtin.zeroCells z.cells k).toList, hr, ⟨?_, .inr ⟨w.heap.size, _, _, rfl, Nat.zero_le _, heap_alloc_new w.drew _, hge, hcm', ?_, ?_⟩⟩, hjl, ⟨rfl, rfl, rfl, by simp, fun b hb _ => heap_alloc_old w.drew _ hb⟩, fun b hb => by simp [Value.ownBlock] at hb; omega⟩
  · rw [List.length_append, hol, hjl, Nat.add_mul]
  · simp only [Array.size_append, List.size_toArray, size_zeroCells, hzs, hol, ← Nat.add_mul]
    congr 1
    omega
  · simp only [Array.toList_append]
    have : (i + k) * inf.size = (cs.take (i * inf.size) ++ (Builtin.zeroCells z.cells k).toList).length := by rw [List.length_append, hol, hjl, Nat.add_mul]
    rw [this]
    exact List.take_left
end
theorem celF {α : Type} {enc : α → List Value} (h : ∀ x, Step.Cellish (enc x)) (xs : List α) : Step.Cellish (xs.flatMap enc) := by
  intro u hu
  obtain ⟨a, _, hu⟩ := List.mem_flatMap.1 hu
  exact h a u hu
/-- what an insertion leaves -/
def insL {α : Type} (xs : List α) (i : Nat) (x : α) : List α := xs.take i ++ x :: xs.drop i
theorem insL_len {α : Type} (xs : List α) {i : Nat} (h : i ≤ xs.length) (x : α) : (insL xs i x).length = xs.length + 1 := by simp [insL]; omega
theorem insL_end {α : Type} (xs : List α) (x : α) : insL xs xs.length x = xs ++ [x] := by simp [insL]
section
variable {α : Type} {enc : α → List Value} {size : Nat} (he : ∀ x, (enc x).length = size)
include he
theorem ins_grow {xs : List α} {i : Nat} (hi : i ≤ xs.length) (x : α) {junk : List Value} (hj : junk.length = (xs.length + 1 - i) * size) :
    splice (splice ((xs.flatMap enc).take (i * size) ++ junk) (i * size) (enc x)) ((i + 1) * size) ((xs.drop i).flatMap enc) = (insL xs i x).flatMap enc := by
  have h1 : ((xs.flatMap enc).take (i * size)).length = i * size := by
    rw [List.length_take, length_flatMap he]
    have : i * size ≤ xs.length * size := Nat.mul_le_mul_right _ hi
    omega
  have h2 : (xs.length + 1 - i) * size = size + (xs.length - i) * size := by
    rw [show xs.length + 1 - i = 1 + (xs.length - i) by omega, Nat.add_mul, Nat.one_mul]
  have h3 : ((xs.drop i).flatMap enc).length = (xs.length - i) * size := by rw [length_flatMap he, List.length_drop]
  have h4 : (enc x).length = size := he x
  have e1 : splice ((xs.flatMap enc).take (i * size) ++ junk) (i * size) (enc x) = (xs.flatMap enc).take (i * size) ++ enc x ++ junk.drop size := by
    simp only [splice]
    rw [h4]
    have a1 : ((xs.flatMap enc).take (i * size) ++ junk).take (i * size) = (xs.flatMap enc).take (i * size) := List.take_left' h1
    have a2 : ((xs.flatMap enc).take (i * size) ++ junk).drop (i * size + size) = junk.drop size := by
      rw [← List.drop_drop, List.drop_left' h1]
    rw [a1, a2]
  rw [e1]
  have h5 : ((xs.flatMap enc).take (i * size) ++ enc x).length = (i + 1) * size := by rw [List.length_append, h1, h4, Nat.add_mul, Nat.one_mul]
  simp only [splice]
  have hjd : (junk.drop size).drop ((xs.length - i) * size) = [] := by rw [List.drop_drop]; exact List.drop_of_length_le (by rw [hj, h2]; omega)
  rw [List.take_left' h5, h3, ← List.drop_drop, List.drop_left' h5, hjd, List.append_nil, take_flatMap he]
  simp [insL]
theorem ins_room {xs : List α} {i : Nat} (hi : i < xs.length) (x : α) : (xs.take (i + 1) ++ xs.drop i).set i x = insL xs i x := by
  have h1 : (xs.take i).length = i := by rw [List.length_take]; omega
  have h2 : xs.take (i + 1) = xs.take i ++ [xs[i]] := List.take_succ_eq_append_getElem hi
  rw [h2, List.append_assoc, List.set_append_right _ _ (by omega), h1]
  simp [insL]
end
namespace Mem
variable {P : Program} {F X : Nat → Prop} {w w0 : World} {L : List Chunk} {R : List (World → Prop)} {ρ : Env} {d : Option Nat} {pos : String} {aft : Array Edge} {g : Option (Nat × Bool)} {t tn ty e : TypeId} {z : Value} {size bytes : Nat} {x y : Operand} {v : Value} {n : Nat} {cs : List Value}
/-- copy(s[l:], src), of m elements, for all of which there is room -/
theorem copyRow {l m h : Nat} {sv : Value} {news : List Value} (M : Mem F X w0 L R w) (i : Nat) (hi : L[i]? = some (Tp.own e size v n cs)) (ht : Und P t (.slice e)) (hs : Sized P e size) (hx : ρ.ev x = vSlice size l h (vCap v) v) (hh : h = n) (hy : ρ.ev y = sv)
    (hsrc : SlAt size sv m news w) (hm : 0 < m) (hl : l + m ≤ n) (h1 : Step.Cellish news) :
    ∃ w', Step P (.call { callee := .builtin .copy, args := #[x, y], argTypes := #[t, t] }) ty ρ w (goInt m) w' ∧ Mem F X w0 (L.set i (Tp.own e size v n (splice cs (l * size) news))) R w' ∧ Mod (Tp.own e size v n cs).foot w w' := by
  rw [hh] at hx
  have hown := (M.chunk i hi).inv
  have hnl := hsrc.len
  have e0 : l * size + m * size ≤ n * size := by rw [← Nat.add_mul]; exact Nat.mul_le_mul_right _ hl
  obtain ⟨cur, b1, b2, b3, b4, b5⟩ := own_store (new := news) (o := l * size) hown (by omega) (by omega)
  rcases hown.2 with ⟨_, rfl⟩ | ⟨gb, cap, cur', rfl, h0, hg, hnc, hcm, hcs, htake⟩
  · omega
  obtain ⟨a, mc, hsv⟩ : ∃ a mc, sv = .slice (some a) m mc := by
    obtain ⟨cap, h⟩ := hsrc.base hm
    exact ⟨_, _, h⟩
  have hread := hsrc.srcCells a mc hsv
  subst hsv
  have hm' : Mod (Tp.own e size (.slice (some ⟨gb, 0, none⟩) n cap) n cs).foot w (World.blkSet w gb (.cells (Step.put cur (l * size) news) e)) := (blkSet_mod w gb _).mono fun b _ hb => by
    show (Value.slice (some ⟨gb, 0, none⟩) n cap).ownBlock = some b
    rw [b4]; exact congrArg some (show gb = b from hb.symm)
  have hr := copy_run (P := P) (ty := ty) (t := t) ht hs (b := gb) (off := l * size) (dl := n - l) (dc := cap - l) (a := a) (m := m) (mc := mc) (cl := news) b1 hnl (Nat.min_eq_left (by omega)) hread b3 h1
  refine ⟨_, fun d pos aft g => .inl ?_, M.turn i hi hm' (own_ok b5) fun b hb => .inl hb, hm'⟩
  have hx' : ρ.ev x = .slice (some ⟨gb, l * size, none⟩) (n - l) (cap - l) := by
    rw [hx, vSlice_cap, if_neg (by omega), Nat.zero_add]
  simp only [execOp, resolve, invoke, builtin, Sem.run_bind, Sem.run_pure, Result.andThen_ok, List.map_toArray, List.map_cons, List.map_nil, hx', hy, hr]
/-- s[:n+1] has room; copy(s[i+1:], s[i:]) in it -/
theorem copyGrow {α : Type} {enc : α → List Value} {xs : List α} {k : Nat} (he : ∀ x, (enc x).length = size) (M : Mem F X w0 L R w) (i : Nat) (hi : L[i]? = some (Tp.own e size v xs.length (xs.flatMap enc))) (ht : Und P t (.slice e)) (hs : Sized P e size)
    (hx : ρ.ev x = vSlice size (k + 1) (xs.length + 1) (vCap (vTake (xs.length + 1) v)) (vTake (xs.length + 1) v)) (hy : ρ.ev y = vSlice size k (xs.length + 1) (vCap (vTake (xs.length + 1) v)) (vTake (xs.length + 1) v))
    (hk : k < xs.length) (hroom : xs.length + 1 ≤ vCap v) (h1 : ∀ x, Step.Cellish (enc x)) :
    ∃ w', Step P (.call { callee := .builtin .copy, args := #[x, y], argTypes := #[t, t] }) ty ρ w (goInt ((xs.length - k : Nat) : Int)) w' ∧
      Mem F X w0 (L.set i (Tp.own e size (vTake (xs.length + 1) v) (xs.take (k + 1) ++ xs.drop k).length ((xs.take (k + 1) ++ xs.drop k).flatMap enc))) R w' ∧ Mod (Tp.own e size v xs.length (xs.flatMap enc)).foot w w' := by
  have hown := (M.chunk i hi).inv
  rcases hown.2 with ⟨_, h⟩ | ⟨gb, cap, cur, rfl, h0, hg, hnc, hcm, hcs, htake⟩
  · omega
  simp only [vCap] at hroom
  simp only [vTake_eq, vCap] at hx hy ⊢
  have hlen : (xs.take (k + 1) ++ xs.drop k).length = xs.length + 1 := by simp; omega
  have e0 : k * size ≤ xs.length * size := Nat.mul_le_mul_right _ (by omega)
  have e1 : (k + 1) * size = k * size + size := by rw [Nat.add_mul, Nat.one_mul]
  have e5 : (k + 1) * size ≤ xs.length * size := Nat.mul_le_mul_right _ (by omega)
  have e2 : (xs.length - k) * size + k * size = xs.length * size := by rw [← Nat.add_mul]; congr 1; omega
  have e3 : (xs.length + 1) * size = xs.length * size + size := by rw [Nat.add_mul, Nat.one_mul]
  have e4 : (xs.length + 1) * size ≤ cap * size := Nat.mul_le_mul_right _ hroom
  have hcl : ((xs.drop k).flatMap enc).length = (xs.length - k) * size := by rw [length_flatMap he, List.length_drop]
  have hread : ∀ j u, ((xs.drop k).flatMap enc)[j]? = some u → w.cell? ((⟨gb, k * size, none⟩ : Addr).add j) = some u := by
    intro j u hu
    have hj := (List.getElem?_eq_some_iff.1 hu).1
    rw [hcl] at hj
    rw [addr_add_none, cell_blk hg, ← Array.getElem?_toList]
    rw [← drop_flatMap he, List.getElem?_drop, ← htake, List.getElem?_take, if_pos (by omega)] at hu
    exact hu
  have hcel : Step.Cellish ((xs.drop k).flatMap enc) := by
    intro u hu
    obtain ⟨a, _, hu⟩ := List.mem_flatMap.1 hu
    exact h1 a u hu
  have hput := put_toList ((xs.drop k).flatMap enc) cur ((k + 1) * size) (by rw [hcl, hcs]; omega)
  have hr := copy_run (P := P) (ty := ty) (t := t) (w := w) ht hs (b := gb) (off := (k + 1) * size) (dl := xs.length + 1 - (k + 1)) (dc := cap - (k + 1)) (a := ⟨gb, k * size, none⟩) (m := xs.length + 1 - k) (mc := cap - k) (kk := xs.length - k) (cl := (xs.drop k).flatMap enc) hg hcl
    (by show min (xs.length + 1 - k) (xs.length + 1 - (k + 1)) = _; omega) hread (by rw [hcl, hcs]; omega) hcel
  have hx' : ρ.ev x = .slice (some ⟨gb, (k + 1) * size, none⟩) (xs.length + 1 - (k + 1)) (cap - (k + 1)) := by
    rw [hx]
    simp only [vSlice, Option.map_some, addr_add_none, Nat.zero_add]
    by_cases ec : cap = k + 1
    · exfalso; omega
    · rw [if_neg ec]
  have hy' : ρ.ev y = .slice (some ⟨gb, k * size, none⟩) (xs.length + 1 - k) (cap - k) := by
    rw [hy]
    simp only [vSlice, Option.map_some, addr_add_none, Nat.zero_add]
    rw [if_neg (by omega)]
  have hm' : Mod (Tp.own e size (.slice (some ⟨gb, 0, none⟩) xs.length cap) xs.length (xs.flatMap enc)).foot w (World.blkSet w gb (.cells (Step.put cur ((k + 1) * size) ((xs.drop k).flatMap enc)) e)) := (blkSet_mod w gb _).mono fun b _ hb => by
    show (Value.slice (some ⟨gb, 0, none⟩) xs.length cap).ownBlock = some b
    exact congrArg some (show gb = b from hb.symm)
  have hnew : (World.blkSet w gb (.cells (Step.put cur ((k + 1) * size) ((xs.drop k).flatMap enc)) e)).ownsRow 0 e size (.slice (some ⟨gb, 0, none⟩) (xs.length + 1) cap) (xs.take (k + 1) ++ xs.drop k).length ((xs.take (k + 1) ++ xs.drop k).flatMap enc) := by
    rw [hlen]
    refine ⟨by rw [length_flatMap he, hlen], .inr ⟨gb, cap, _, rfl, Nat.zero_le _, blkSet_at _ (lt_of_blk hg), hroom, hcm, by rw [Step.put_size]; exact hcs, ?_⟩⟩
    rw [hput]
    have hA : (cur.toList.take ((k + 1) * size)) = (xs.take (k + 1)).flatMap enc := by
      rw [← take_flatMap he, ← htake, List.take_take, Nat.min_eq_left (by omega)]
    simp only [splice]
    rw [hA, List.flatMap_append]
    refine List.take_left' ?_
    rw [List.length_append, hcl, length_flatMap he, List.length_take, Nat.min_eq_left (by omega)]
    omega
  refine ⟨_, fun d pos aft g => .inl ?_, M.turn i hi hm' (own_ok hnew) fun b hb => .inl hb, hm'⟩
  simp only [execOp, resolve, invoke, builtin, Sem.run_bind, Sem.run_pure, Result.andThen_ok, List.map_toArray, List.map_cons, List.map_nil, hx', hy', hr]
/-- append(s[:a], make([]T, k)...): new memory -/
theorem growZeros {kn kq : IntKind} {a k : Nat} (M : Mem F X w0 L R w) (i : Nat) (hi : L[i]? = some (Tp.own e size v n cs)) (ht : Und P t (.slice e)) (htn : Und P tn (.int kn)) (he : Elem P e z size bytes) (hzs : z.cells.size = size) (hsz : 0 < size)
    (hx : ρ.ev x = vTake a v) (hy : ρ.ev y = .int kq (k : Int)) (hn : 0 < n) (ha : a ≤ n) (hk : 0 < k) (hg : vCap v < a + k) (hak : a + k ≤ maxLen) (hb : (a + k) * bytes ≤ 140737488355328) :
    Does P ⟨d, .call { callee := .builtin .append, args := #[x, y], argTypes := #[t, tn] }, ty, pos, aft, g⟩ ρ w fun v' w' => ∃ junk, junk.length = k * size ∧ Old w w' ∧ Mem F X w0 (Tp.own e size v' (a + k) (cs.take (a * size) ++ junk) :: L) R w' := by
  obtain ⟨v', w', junk, hr, h2, h3, h4, h5⟩ := append_zeros_run (ty := ty) (kq := kq) ht htn he hzs hsz (M.chunk i hi).inv hn ha hk hg hak hb
  refine .inl ⟨v', w', fun d pos aft g => .inl ?_, junk, h3, h4, M.own h4 (own_ok h2) h5⟩
  simp only [execOp, resolve, invoke, builtin, Sem.run_bind, Sem.run_pure, Result.andThen_ok, List.map_toArray, List.map_cons, List.map_nil, hx, hy, hr]
/-- slices.overlaps of two that lie in different blocks of one's own -/
theorem overlaps {e2 : TypeId} {f : FuncId} {ts : Array TypeId} {b q : Nat} {c : Array Value} {l h m uc un : Nat} (M : Mem F X w0 L R w) (i : Nat) (hi : L[i]? = some (Tp.own e size v n cs)) (j : Nat) (hj : L[j]? = some (Tp.blk b (.cells c e2))) (hij : i ≠ j) (ht : Und P t (.slice e)) (hs : Sized P e size)
    (hx : ρ.ev x = .slice (some ⟨b, 0, none⟩) un uc) (hy : ρ.ev y = vSlice size l h m (vTake q v)) (hn : 0 < n) (hsz : 0 < size) (hfun : ∀ args : Array Value, (callFunc f args).run P w = ((Extern.SlicesOverlaps.overlaps #[t, t] #[ty] args).run P w).andThen fun v w' => .ok (.value v) w') :
    Step P (.call { callee := .value (.func f), args := #[x, y], argTypes := ts }) ty ρ w (.bool false) w := by
  have hown := (M.chunk i hi).inv
  have hbk : w.heap[b]? = some (.cells c e2) := M.blk j hj
  rcases hown.2 with ⟨_, h⟩ | ⟨gb, cap, cur, rfl, h0, hg, hnc, hcm, hcs, htake⟩
  · omega
  have hne : b ≠ gb := by
    intro e
    subst e
    exact M.disj_ne hi hj hij b rfl rfl
  have hsc : 0 < cap * size := Nat.mul_pos (by omega) hsz
  obtain ⟨o, l2, c2, hy2⟩ : ∃ o l2 c2, ρ.ev y = .slice (some ⟨gb, o, none⟩) l2 c2 := by
    rw [hy]
    simp only [vTake_eq, vSlice, Option.map_some, addr_add_none]
    split <;> exact ⟨_, _, _, rfl⟩
  have hr := Go.Lib.run_overlaps_apart (P := P) w t ty e ht size hs ⟨b, 0, none⟩ ⟨gb, o, none⟩ un uc l2 c2 hne e2 e c.size cur.size (by simp [World.shape?, hbk]) (by simp [World.shape?, hg]) (by omega) (by simp [World.frozen?, hbk]) (by simp [World.frozen?, hbk])
  refine Step.outer (args := [.slice (some ⟨b, 0, none⟩) un uc, .slice (some ⟨gb, o, none⟩) l2 c2]) (by simp [hx, hy2]) ?_
  rw [hfun, hr]
  rfl
end Mem
section
variable {P : Program} {b : Frame} {a : Act} {k : List Item} {cs : List Frame} {w : World} {n : Nat} {Q : Exit → Env → World → Prop} {ρ : Env}
theorem stepR_scope {c : Code} : step P (lone (b.atR a (.code (.scope c) :: k)) cs w) = .next (lone (b.atR a (.code c :: .inScope c :: k)) cs w) :=
  step_lone_go (by simp [stepG, stepG.exec, Frame.atR])
theorem stepR_inScope {c : Code} : step P (lone (b.atR a (.inScope c :: k)) cs w) = .next (lone (b.atR a k) cs w) :=
  step_lone_go (by simp [stepG, stepG.exec, Frame.atR])
/-- a scope through which the run goes without a goto -/
theorem W.scope {c : Code} (h : W P n c Q ρ w) : W P n (.scope c) Q ρ w := by
  intro a ha b k cs hb
  obtain ⟨e, a₁, w₁, ⟨ρ', h1, h2, h3⟩, harr⟩ := h a ha b (.inScope c :: k) cs hb
  cases e with
  | normal => exact ⟨.normal, a₁, w₁, ⟨ρ', h1, h2, h3⟩, Steps.head stepR_scope (Steps.trans harr (.one stepR_inScope))⟩
  | exit id' =>
    obtain ⟨k0, hk, hs⟩ := harr
    exact ⟨.exit id', a₁, w₁, ⟨ρ', h1, h2, h3⟩, k0, by rw [hk]; simp [exitTo], Steps.head stepR_scope hs⟩
  | ret => obtain ⟨k0, hs⟩ := harr; exact ⟨.ret, a₁, w₁, ⟨ρ', h1, h2, h3⟩, k0, Steps.head stepR_scope hs⟩
  | goto l => exact harr.elim
  | panic ch => exact harr.elim
  | outgrown => exact harr.elim
end
end Tp
