/- slices.Sort of numbers: the library's contract, over the memory. -/
import Derived.Test.YthihknbbibgchaaTrSesQ
import Derived.Shelf.SortM.Plain
import Derived.Shelf.SortM.SortNone
import Derived.Test.YthihknbbibgchaaChecked
set_option linter.all false
set_option maxRecDepth 100000
namespace Go.Proofs
open Go
def Try.sortl_ren : Go.Shelf.Ren := ⟨fun | 5 => 66 | 8 => 74 | 7 => 85 | 19 => 94 | 20 => 95 | 10 => 98 | 11 => 99 | 12 => 100 | 13 => 101 | 14 => 102 | 15 => 103 | 16 => 104 | 17 => 105 | 18 => 106 | 30 => 113 | 31 => 108 | 32 => 109 | 33 => 114 | 34 => 115 | 35 => 82 | 40 => 117 | n => n, fun | 23 => 70 | 25 => 2 | 3 => 3 | 32 => 124 | 22 => 70 | 0 => 0 | 44 => 144 | 46 => 23 | 4 => 4 | 36 => 138 | 35 => 137 | 41 => 109 | 5 => 5 | 9 => 9 | 53 => 153 | 57 => 156 | 63 => 161 | 64 => 162 | n => n, fun | n => n⟩
theorem Try.sortl : Go.Proofs.SlLaysM.n5 Try.prog Try.sortl_ren := {
  mixed := by kernel_rfl,
  f5 := ⟨Try.f66.name, by decide, Try.func66.trans (congrArg some (by kernel_rfl))⟩,
  f7 := ⟨Try.f85.name, by decide, Try.func85.trans (congrArg some (by kernel_rfl))⟩,
  f8 := Try.func74.trans (congrArg some (by kernel_rfl)),
  f10 := ⟨Try.f98.name, by decide, Try.func98.trans (congrArg some (by kernel_rfl))⟩,
  f11 := ⟨Try.f99.name, by decide, Try.func99.trans (congrArg some (by kernel_rfl))⟩,
  f12 := ⟨Try.f100.name, by decide, Try.func100.trans (congrArg some (by kernel_rfl))⟩,
  f13 := ⟨Try.f101.name, by decide, Try.func101.trans (congrArg some (by kernel_rfl))⟩,
  f14 := ⟨Try.f102.name, by decide, Try.func102.trans (congrArg some (by kernel_rfl))⟩,
  f15 := ⟨Try.f103.name, by decide, Try.func103.trans (congrArg some (by kernel_rfl))⟩,
  f16 := ⟨Try.f104.name, by decide, Try.func104.trans (congrArg some (by kernel_rfl))⟩,
  f17 := ⟨Try.f105.name, by decide, Try.func105.trans (congrArg some (by kernel_rfl))⟩,
  f18 := ⟨Try.f106.name, by decide, Try.func106.trans (congrArg some (by kernel_rfl))⟩,
  f19 := Try.func94.trans (congrArg some (by kernel_rfl)),
  f20 := Try.func95.trans (congrArg some (by kernel_rfl)),
  f30 := ⟨Try.f113.name, by decide, Try.func113.trans (congrArg some (by kernel_rfl))⟩,
  f31 := Try.func108.trans (congrArg some (by kernel_rfl)),
  f32 := Try.func109.trans (congrArg some (by kernel_rfl)),
  f33 := ⟨Try.f114.name, by decide, Try.func114.trans (congrArg some (by kernel_rfl))⟩,
  f34 := ⟨Try.f115.name, by decide, Try.func115.trans (congrArg some (by kernel_rfl))⟩,
  f35 := ⟨Try.f82.name, by decide, Try.func82.trans (congrArg some (by kernel_rfl))⟩,
  f40 := ⟨Try.f117.name, by decide, Try.func117.trans (congrArg some (by kernel_rfl))⟩,
  t0 := Try.underlying0,
  a0 := Try.isAgg0,
  z0 := Try.sizeOf0,
  v0 := Try.zeroValue0,
  t3 := Try.underlying3,
  a3 := Try.isAgg3,
  z3 := Try.sizeOf3,
  v3 := Try.zeroValue3,
  t4 := Try.underlying4,
  a4 := Try.isAgg4,
  z4 := Try.sizeOf4,
  v4 := Try.zeroValue4,
  t5 := Try.underlying5,
  a5 := Try.isAgg5,
  z5 := Try.sizeOf5,
  v5 := Try.zeroValue5,
  t9 := Try.underlying9,
  a9 := Try.isAgg9,
  z9 := Try.sizeOf9,
  v9 := Try.zeroValue9,
  t22 := Try.underlying70,
  a22 := Try.isAgg70,
  z22 := Try.sizeOf70,
  v22 := Try.zeroValue70,
  t23 := Try.underlying70,
  a23 := Try.isAgg70,
  z23 := Try.sizeOf70,
  v23 := Try.zeroValue70,
  t25 := Try.underlying2,
  a25 := Try.isAgg2,
  z25 := Try.sizeOf2,
  v25 := Try.zeroValue2,
  t32 := Try.underlying124,
  a32 := Try.isAgg124,
  z32 := Try.sizeOf124,
  v32 := Try.zeroValue124,
  t35 := Try.underlying137,
  a35 := Try.isAgg137,
  z35 := Try.sizeOf137,
  v35 := Try.zeroValue137,
  t36 := Try.underlying138,
  a36 := Try.isAgg138,
  z36 := Try.sizeOf138,
  v36 := Try.zeroValue138,
  t41 := Try.underlying109,
  a41 := Try.isAgg109,
  z41 := Try.sizeOf109,
  v41 := Try.zeroValue109,
  t44 := Try.underlying144,
  a44 := Try.isAgg144,
  z44 := Try.sizeOf144,
  v44 := Try.zeroValue144,
  t46 := Try.underlying23,
  a46 := Try.isAgg23,
  z46 := Try.sizeOf23,
  v46 := Try.zeroValue23,
  t53 := Try.underlying153,
  a53 := Try.isAgg153,
  z53 := Try.sizeOf153,
  v53 := Try.zeroValue153,
  t57 := Try.underlying156,
  a57 := Try.isAgg156,
  z57 := Try.sizeOf156,
  v57 := Try.zeroValue156,
  t63 := Try.underlying161,
  a63 := Try.isAgg161,
  z63 := Try.sizeOf161,
  v63 := Try.zeroValue161,
  t64 := Try.underlying162,
  a64 := Try.isAgg162,
  z64 := Try.sizeOf162,
  v64 := Try.zeroValue162 }
end Go.Proofs
namespace Tp
open Go Go.Proofs Go.Sort
theorem sort_world {w : World} {b cap n q : Nat} {cur : Array Value} {e : TypeId} {xs ys : List Int} {os : Array Obj} (hb : w.heap[b]? = some (.cells cur e (0, 0))) (hn : xs.length = n) (hy : ys.length = n) (hnc : n ≤ cap) (hcm : cap ≤ maxLen) (hcs : cur.size = cap) :
    (grow (putRow (Value.int .i64) (Sort.ahead w q) b 0 ys.toArray) os).ownsRow 0 e 1 (.slice (some ⟨b, 0, none⟩) n cap) n (ys.flatMap intE) ∧ Tp.Mod (fun x => b = x) w (grow (putRow (Value.int .i64) (Sort.ahead w q) b 0 ys.toArray) os) := by
  have hlt := lt_of_blk hb
  have hblk : (grow (putRow (Value.int .i64) (Sort.ahead w q) b 0 ys.toArray) os).heap[b]? = some (.cells (putCells (Value.int .i64) 0 ys.toArray cur) e (0, 0)) := by
    rw [heap_grow_old _ _ (by simpa [Sort.ahead] using hlt)]
    simp [putRow, mapBlock, Sort.ahead, Array.getElem?_modify, hb, onCells]
  refine ⟨⟨by rw [length_flatMap intE_len, hy], .inr ⟨b, cap, _, rfl, Nat.zero_le _, hblk, hnc, hcm, by simp [putCells, hcs], ?_⟩⟩, ⟨rfl, rfl, rfl, by simp [grow, Sort.ahead], fun k hk hx => ?_⟩⟩
  · rw [Nat.mul_one]
    have hfm : ys.flatMap intE = ys.map (Value.int .i64) := by
      clear hblk hy
      induction ys with
      | nil => rfl
      | cons y ys ih => rw [List.flatMap_cons, ih]; rfl
    rw [hfm]
    apply List.ext_getElem?
    intro j
    rw [List.getElem?_take]
    by_cases hj : j < n
    · rw [if_pos hj, Array.getElem?_toList]
      simp only [putCells, Array.getElem?_mapIdx]
      have hc : j < cur.size := by omega
      rw [Array.getElem?_eq_getElem hc, Option.map_some, if_pos ⟨by omega, by simp; omega⟩, List.getElem?_map, List.getElem?_eq_getElem (by omega), Option.map_some]
      congr 2
      rw [Nat.sub_zero, getElem!_pos _ _ (by simp; omega)]
      simp
    · rw [if_neg hj, List.getElem?_eq_none (by simp; omega)]
  · rw [heap_grow_old _ _ (by simpa [Sort.ahead] using hk)]
    simp only [putRow, mapBlock, Sort.ahead, Array.getElem?_modify]
    rw [if_neg hx]
end Tp
namespace Go.Proofs
open Go Tp Go.Sort
theorem sort_i64 {G X : Nat → Prop} {w : World} (v : Value) (xs : List Int) (hb : xs.length ≤ 1000000) (M : Mem G X w [own 2 1 v xs.length (xs.flatMap intE)] [] w) :
    Rets Try.prog 66 #[v] w fun r w' => r = undef ∧ Mem G X w [own 2 1 v (sortT xs).length ((sortT xs).flatMap intE)] [] w' := by
  have hown := (M.chunk 0 rfl).inv
  rcases hown.2 with ⟨rfl, hz⟩ | ⟨b, cap, cur, rfl, h0, hg, hnc, hcm, hcs, htake⟩
  · have hx : xs = [] := List.eq_nil_of_length_eq_zero hz
    subst hx
    refine Calls.mono (AnyM.slices_Sort_int_none Try.sortl none 0 w) ?_
    rintro e w' ⟨rfl, rfl⟩
    refine ⟨_, rfl, rfl, ?_⟩
    have : sortT [] = [] := by simp [sortT]
    rw [this]; exact M
  · rw [Nat.mul_one] at hcs
    have hfm : ∀ ys : List Int, ys.flatMap intE = ys.map (Value.int .i64) := by
      intro ys
      induction ys with
      | nil => rfl
      | cons y ys ih => rw [List.flatMap_cons, ih]; rfl
    have hH : Holds (Value.int .i64) w b 0 xs.toArray := by
      intro j hj
      have hj' : j < xs.length := by simpa using hj
      refine ⟨?_, by simp [World.frozen?, hg]⟩
      rw [cell_blk hg, Nat.zero_add, ← Array.getElem?_toList]
      have h1 : (cur.toList.take (xs.length * 1))[j]? = cur.toList[j]? := by rw [List.getElem?_take, if_pos (by omega)]
      rw [← h1, htake, hfm, List.getElem?_map, List.getElem?_eq_getElem hj', Option.map_some, getElem!_pos xs.toArray j hj]
      simp
    refine Calls.mono (AnyM.slices_Sort_int Try.sortl b 0 cap xs w hH (lt_of_blk hg) (by omega)) ?_
    rintro e w' ⟨rfl, q, os, rfl⟩
    obtain ⟨h1, h2⟩ := sort_world (w := w) (b := b) (cap := cap) (n := xs.length) (q := q) (cur := cur) (e := 2) (xs := xs) (ys := sortT xs) (os := os) hg rfl (sortT_len xs) hnc hcm hcs
    have hm : Tp.Mod (Tp.own 2 1 (.slice (some ⟨b, 0, none⟩) xs.length cap) xs.length (xs.flatMap intE)).foot w (grow (putRow (Value.int .i64) (Sort.ahead w q) b 0 (sortT xs).toArray) os) := h2.mono fun x _ hx => congrArg some hx
    refine ⟨_, rfl, rfl, ?_⟩
    have := M.turn 0 rfl hm (own_ok h1) fun b hb => .inl hb
    rw [sortT_len]
    exact this
end Go.Proofs
