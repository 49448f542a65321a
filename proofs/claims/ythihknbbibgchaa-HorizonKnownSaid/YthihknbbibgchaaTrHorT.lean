/- slices.SortFunc of pins: the library's contract, over the memory. -/
import Derived.Test.YthihknbbibgchaaTrHorP
import Derived.Test.YthihknbbibgchaaTrZ6
import Derived.Shelf.SlSortCmp.WholeK
import Derived.Shelf.SlSortCmp.NoneTotal
import Derived.Test.YthihknbbibgchaaChecked
set_option linter.all false
set_option maxRecDepth 100000
namespace Go.Proofs
open Go
def Try.sortp_ren : Go.Shelf.Ren := ⟨fun | 6 => 48 | 15 => 74 | 14 => 73 | 28 => 94 | 29 => 95 | 20 => 86 | 21 => 87 | 22 => 88 | 23 => 89 | 24 => 90 | 25 => 91 | 26 => 92 | 27 => 93 | 46 => 107 | 47 => 108 | 48 => 109 | 49 => 110 | 50 => 111 | 57 => 116 | n => n, fun | 22 => 33 | 24 => 35 | 25 => 101 | 3 => 3 | 39 => 124 | 0 => 0 | 53 => 144 | 55 => 23 | 4 => 4 | 46 => 138 | 45 => 137 | 50 => 109 | 5 => 5 | 9 => 9 | 66 => 153 | 70 => 156 | 76 => 161 | 77 => 162 | n => n, fun | n => n⟩
theorem Try.sortp : Go.Proofs.SlLaysF0.n6 Try.prog Try.sortp_ren := {
  mixed := by kernel_rfl,
  f6 := ⟨Try.f48.name, by decide, Try.func48.trans (congrArg some (by kernel_rfl))⟩,
  f14 := ⟨Try.f73.name, by decide, Try.func73.trans (congrArg some (by kernel_rfl))⟩,
  f15 := Try.func74.trans (congrArg some (by kernel_rfl)),
  f20 := ⟨Try.f86.name, by decide, Try.func86.trans (congrArg some (by kernel_rfl))⟩,
  f21 := ⟨Try.f87.name, by decide, Try.func87.trans (congrArg some (by kernel_rfl))⟩,
  f22 := ⟨Try.f88.name, by decide, Try.func88.trans (congrArg some (by kernel_rfl))⟩,
  f23 := ⟨Try.f89.name, by decide, Try.func89.trans (congrArg some (by kernel_rfl))⟩,
  f24 := ⟨Try.f90.name, by decide, Try.func90.trans (congrArg some (by kernel_rfl))⟩,
  f25 := ⟨Try.f91.name, by decide, Try.func91.trans (congrArg some (by kernel_rfl))⟩,
  f26 := ⟨Try.f92.name, by decide, Try.func92.trans (congrArg some (by kernel_rfl))⟩,
  f27 := ⟨Try.f93.name, by decide, Try.func93.trans (congrArg some (by kernel_rfl))⟩,
  f28 := Try.func94.trans (congrArg some (by kernel_rfl)),
  f29 := Try.func95.trans (congrArg some (by kernel_rfl)),
  f46 := ⟨Try.f107.name, by decide, Try.func107.trans (congrArg some (by kernel_rfl))⟩,
  f47 := Try.func108.trans (congrArg some (by kernel_rfl)),
  f48 := Try.func109.trans (congrArg some (by kernel_rfl)),
  f49 := ⟨Try.f110.name, by decide, Try.func110.trans (congrArg some (by kernel_rfl))⟩,
  f50 := ⟨Try.f111.name, by decide, Try.func111.trans (congrArg some (by kernel_rfl))⟩,
  f57 := ⟨Try.f116.name, by decide, Try.func116.trans (congrArg some (by kernel_rfl))⟩,
  t0 := Try.underlying0,
  a0 := Try.isAgg0,
  z0 := Try.sizeOf0,
  v0 := Try.zeroValue0,
  t3 := Try.underlying3,
  a3 := Try.isAgg3,
  z3 := Try.sizeOf3,
  v3 := Try.zeroValue3,
  t4 := Try.underlying4,
  a4 := Try.isAgg4,
  z4 := Try.sizeOf4,
  v4 := Try.zeroValue4,
  t5 := Try.underlying5,
  a5 := Try.isAgg5,
  z5 := Try.sizeOf5,
  v5 := Try.zeroValue5,
  t9 := Try.underlying9,
  a9 := Try.isAgg9,
  z9 := Try.sizeOf9,
  v9 := Try.zeroValue9,
  t22 := Try.underlying33,
  a22 := Try.isAgg33,
  z22 := Try.sizeOf33,
  v22 := Try.zeroValue33,
  t25 := Try.underlying101,
  a25 := Try.isAgg101,
  z25 := Try.sizeOf101,
  v25 := Try.zeroValue101,
  t39 := Try.underlying124,
  a39 := Try.isAgg124,
  z39 := Try.sizeOf124,
  v39 := Try.zeroValue124,
  t45 := Try.underlying137,
  a45 := Try.isAgg137,
  z45 := Try.sizeOf137,
  v45 := Try.zeroValue137,
  t46 := Try.underlying138,
  a46 := Try.isAgg138,
  z46 := Try.sizeOf138,
  v46 := Try.zeroValue138,
  t50 := Try.underlying109,
  a50 := Try.isAgg109,
  z50 := Try.sizeOf109,
  v50 := Try.zeroValue109,
  t53 := Try.underlying144,
  a53 := Try.isAgg144,
  z53 := Try.sizeOf144,
  v53 := Try.zeroValue144,
  t55 := Try.underlying23,
  a55 := Try.isAgg23,
  z55 := Try.sizeOf23,
  v55 := Try.zeroValue23,
  t66 := Try.underlying153,
  a66 := Try.isAgg153,
  z66 := Try.sizeOf153,
  v66 := Try.zeroValue153,
  t70 := Try.underlying156,
  a70 := Try.isAgg156,
  z70 := Try.sizeOf156,
  v70 := Try.zeroValue156,
  t76 := Try.underlying161,
  a76 := Try.isAgg161,
  z76 := Try.sizeOf161,
  v76 := Try.zeroValue161,
  t77 := Try.underlying162,
  a77 := Try.isAgg162,
  z77 := Try.sizeOf162,
  v77 := Try.zeroValue162 }
end Go.Proofs
namespace Tp
open Go Go.Proofs Go.Sort
/-- what only draws and makes blocks: as the library tells it -/
theorem old_grow {w w' : World} (h : Old w w') : ∃ q os', w' = grow (w.drewN q) os' := by
  refine ⟨w'.drawn - w.drawn, w'.heap.extract w.heap.size w'.heap.size, ?_⟩
  obtain ⟨h1, h2, h3, h4, h5, h6⟩ := h
  have hh : w'.heap = w.heap ++ w'.heap.extract w.heap.size w'.heap.size := by
    apply Array.ext_getElem?
    intro i
    rw [Array.getElem?_append]
    split
    · rename_i hi; exact h5 i hi id
    · rename_i hi
      rw [Array.getElem?_extract]
      split
      · congr 1; omega
      · rw [Array.getElem?_eq_none (by omega)]
  have hd : w'.drawn = w.drawn + (w'.drawn - w.drawn) := by omega
  cases w; cases w'
  simp only [grow, World.drewN, World.mk.injEq] at *
  exact ⟨hh, h2, hd, h1, h3⟩
theorem flatK_list {α : Type} [Inhabited α] {enc : α → List Value} {k : Nat} (hk : ∀ x, (enc x).length = k) (h0 : 0 < k) (d : Array α) : (flatK enc k d).toList = d.toList.flatMap enc := by
  apply List.ext_getElem?
  intro t
  by_cases ht : t < d.size * k
  · have hi : t / k < d.size := Nat.div_lt_of_lt_mul (by rw [Nat.mul_comm]; exact ht)
    have hx : d.toList[t / k]? = some d[t / k] := by simp [hi]
    obtain ⟨pre, post, e1, e2, _⟩ := flat_open hk hx
    have hm : t % k < k := Nat.mod_lt _ h0
    have hsz : t < (flatK enc k d).size := by simpa using ht
    rw [Array.getElem?_toList, Array.getElem?_eq_getElem hsz, ← getElem!_pos (flatK enc k d) t hsz, get_flatK enc k d t ht, getElem!_pos d (t / k) hi]
    have hl : t % k < (enc d[t / k]).length := by rw [hk]; exact hm
    have hdm : t = t / k * k + t % k := by rw [Nat.mul_comm]; exact (Nat.div_add_mod t k).symm
    rw [e1, List.getElem?_append_right (by omega), e2]
    rw [show t - t / k * k = t % k by omega, List.getElem?_append_left hl, List.getElem?_eq_getElem hl, getElem!_pos (enc d[t / k]) (t % k) hl]
  · rw [List.getElem?_eq_none (by simp; omega), List.getElem?_eq_none (by rw [length_flatMap hk]; simpa using ht)]
theorem sortK_world {α : Type} [Inhabited α] {enc : α → List Value} {k : Nat} (hk : ∀ x, (enc x).length = k) (h0 : 0 < k) {w : World} {b cap n q : Nat} {cur : Array Value} {e : TypeId} {d : Array α} {os : Array Obj} (hb : w.heap[b]? = some (.cells cur e (0, 0))) (hn : d.size = n) (hnc : n ≤ cap) (hcm : cap ≤ maxLen) (hcs : cur.size = cap * k) :
    (sortWorldK enc k w b 0 q d os).ownsRow 0 e k (.slice (some ⟨b, 0, none⟩) n cap) n (d.toList.flatMap enc) ∧ Tp.Mod (fun x => b = x) w (sortWorldK enc k w b 0 q d os) := by
  have hlt := lt_of_blk hb
  have hle : n * k ≤ cap * k := Nat.mul_le_mul_right _ hnc
  have hfs : (flatK enc k d).size = n * k := by rw [size_flatK, hn]
  have hblk : (sortWorldK enc k w b 0 q d os).heap[b]? = some (.cells (putCells id 0 (flatK enc k d) cur) e (0, 0)) := by
    unfold sortWorldK putRowK
    rw [heap_grow_old _ _ (by simpa [Sort.ahead, putRow, mapBlock] using hlt)]
    simp [putRow, mapBlock, Sort.ahead, Array.getElem?_modify, hb, onCells]
  refine ⟨⟨by rw [length_flatMap hk]; simp [hn], .inr ⟨b, cap, _, rfl, Nat.zero_le _, hblk, hnc, hcm, by simp [putCells, hcs], ?_⟩⟩, ⟨rfl, rfl, rfl, by simp [sortWorldK, putRowK, grow, putRow, mapBlock, Sort.ahead], fun j hj hx => ?_, by simp [sortWorldK, putRowK, grow, putRow, mapBlock, Sort.ahead]⟩⟩
  · rw [← flatK_list hk h0]
    apply List.ext_getElem?
    intro j
    rw [List.getElem?_take, Array.getElem?_toList]
    by_cases hj : j < n * k
    · rw [if_pos hj, Array.getElem?_toList]
      simp only [putCells, Array.getElem?_mapIdx]
      have hc : j < cur.size := by omega
      rw [Array.getElem?_eq_getElem hc, Option.map_some, if_pos ⟨by omega, by omega⟩, Nat.sub_zero, Array.getElem?_eq_getElem (by omega), getElem!_pos _ _ (by omega)]
      rfl
    · rw [if_neg hj, List.getElem?_eq_none (by simp only [Array.length_toList]; omega)]
  · unfold sortWorldK putRowK
    rw [heap_grow_old _ _ (by simpa [Sort.ahead, putRow, mapBlock] using hj)]
    simp only [putRow, mapBlock, Sort.ahead, Array.getElem?_modify]
    rw [if_neg hx]
end Tp
namespace Go.Proofs
open Go Tp Go.Sort Go.Shelf
theorem swo_pin : SWO (ltOf cmpPin) where
  irrefl x := by unfold ltOf; simp [cmpPin_lt, ltP_irrefl]
  trans x y z h1 h2 := by
    unfold ltOf at *
    simp only [decide_eq_true_eq, cmpPin_lt] at *
    exact ltP_trans h1 h2
  ntrans x y z h1 h2 := by
    unfold ltOf at *
    simp only [decide_eq_false_iff_not, cmpPin_lt] at *
    unfold ltP at *; omega
theorem sort_pin {G X : Nat → Prop} {w : World} (v : Value) (xs : List PinH) (hb : xs.length ≤ 1000000) (ha : apartP xs) (M : Mem G X w [own 35 3 v xs.length (xs.flatMap pinE)] [] w) :
    Rets Try.prog 48 #[v, (Value.func (.func 49) #[] #[])] w fun r w' => r = undef ∧ Mem G X w [own 35 3 v (sortP xs).length ((sortP xs).flatMap pinE)] [] w' := by
  have hown := (M.chunk 0 rfl).inv
  rcases hown.2 with ⟨rfl, hz⟩ | ⟨b, cap, cur, rfl, h0, hg, hnc, hcm, hcs, htake⟩
  · have hx : xs = [] := List.eq_nil_of_length_eq_zero hz
    subst hx
    refine Calls.mono (AnyF.slices_SortFunc_none Try.sortp none 0 _ w) ?_
    rintro e w' ⟨rfl, rfl⟩
    refine ⟨_, rfl, rfl, ?_⟩
    rw [show sortP [] = [] from sortP_eq .nil (.refl _)]; exact M
  · have hfl := flatK_list pinE_len (by decide) xs.toArray
    have hH : HoldsK pinE 3 w b 0 xs.toArray := by
      intro j hj
      rw [size_flatK] at hj
      have hj' : j < xs.length * 3 := by simpa using hj
      refine ⟨?_, by simp [World.frozen?, hg]⟩
      rw [cell_blk hg, Nat.zero_add, ← Array.getElem?_toList]
      have h1 : (cur.toList.take (xs.length * 3))[j]? = cur.toList[j]? := by rw [List.getElem?_take, if_pos hj']
      rw [← h1, htake, show xs.flatMap pinE = (flatK pinE 3 xs.toArray).toList from hfl.symm, Array.getElem?_toList, Array.getElem?_eq_getElem (by simpa using hj), getElem!_pos _ _ (by simpa using hj)]
      rfl
    have hcmp : CmpLays Try.prog 49 #[] pinE 3 cmpPin b 0 xs.toArray.size w := by
      intro m os dk _ x y
      refine Calls.mono (hz_cmp (G := fun _ => True) x y (Mem.nil _)) ?_
      rintro e w' ⟨r, rfl, rfl, M'⟩
      exact ⟨rfl, old_grow M'.mod⟩
    refine Calls.mono (AnyQ.slices_SortFunc Try.sortp 3 Try.isAgg35 Try.sizeOf35 pinE pinE_len (fun x v hv => by simp [pinE] at hv; rcases hv with rfl | rfl | rfl <;> rfl) cmpPin swo_pin 49 #[] b 0 cap xs.toArray w Try.en49 hcmp hH (lt_of_blk hg) (by simp; omega)) ?_
    rintro e w' ⟨rfl, d', q, os, hp, hs, rfl⟩
    have hds : d'.size = xs.length := by simpa using hp.1
    have hxs : xs.toArray.size = xs.length := by simp
    have hperm : d'.toList.Perm xs := by
      have := hp.2.2
      rwa [Array.extract_eq_self_of_le (by omega), Array.extract_eq_self_of_le (by omega)] at this
    have hsort : sortedP d'.toList := by
      unfold sortedP
      rw [List.pairwise_iff_getElem]
      intro i j hi hj hij
      have h1 := hs i j (Nat.zero_le _) hij (by simp at hj ⊢; omega)
      simp only [Array.length_toList] at hi hj
      rw [getElem!_pos d' i hi, getElem!_pos d' j hj] at h1
      unfold ltOf at h1
      simp only [decide_eq_false_iff_not, cmpPin_lt] at h1
      refine ltP_tri h1 ?_
      have h2 := List.pairwise_iff_getElem.1 ((apart_perm hperm).2 ha) i j (by simpa using hi) (by simpa using hj) hij
      simp only [Array.getElem_toList] at h2
      rw [isP_comm]; exact h2
    have hsp : sortP xs = d'.toList := sortP_eq hsort hperm.symm
    obtain ⟨h1, h2⟩ := sortK_world pinE_len (by decide) (w := w) (b := b) (cap := cap) (n := xs.length) (q := q) (cur := cur) (e := 35) (d := d') (os := os) hg hds hnc hcm hcs
    refine ⟨_, rfl, rfl, ?_⟩
    rw [hsp]
    have hlen : d'.toList.length = xs.length := by simpa using hds
    rw [hlen]
    exact M.turn 0 rfl (h2.mono fun x _ hx => congrArg some hx) (own_ok h1) fun b hb => .inl hb
end Go.Proofs
