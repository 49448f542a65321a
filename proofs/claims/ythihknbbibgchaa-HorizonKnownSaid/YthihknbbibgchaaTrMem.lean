/- Memory: what a function may turn, what it owns, what it shares. -/
import Derived.Test.YthihknbbibgchaaTrBase
namespace Tp
open Go

/-! ## What has turned -/
structure Mod (X : Nat → Prop) (w w' : World) : Prop where
  os : w'.os = w.os
  tape : w'.tape = w.tape
  output : w'.output = w.output
  size : w.heap.size ≤ w'.heap.size
  block : ∀ b, b < w.heap.size → ¬ X b → w'.heap[b]? = w.heap[b]?
  drawn : w.drawn ≤ w'.drawn
abbrev Old (w w' : World) : Prop := Mod (fun _ => False) w w'

namespace Mod
variable {X Y : Nat → Prop} {w w' w'' : World}
theorem refl (X : Nat → Prop) (w : World) : Mod X w w := ⟨rfl, rfl, rfl, Nat.le_refl _, fun _ _ _ => rfl, Nat.le_refl _⟩
theorem trans (h : Mod X w w') (h' : Mod Y w' w'') (hY : ∀ b, b < w.heap.size → Y b → X b) : Mod X w w'' :=
  ⟨h'.os.trans h.os, h'.tape.trans h.tape, h'.output.trans h.output, Nat.le_trans h.size h'.size, fun b hb hx =>
    (h'.block b (Nat.lt_of_lt_of_le hb h.size) (fun hy => hx (hY b hb hy))).trans (h.block b hb hx), Nat.le_trans h.drawn h'.drawn⟩
theorem mono (h : Mod X w w') (hX : ∀ b, b < w.heap.size → X b → Y b) : Mod Y w w' :=
  ⟨h.os, h.tape, h.output, h.size, fun b hb hy => h.block b hb fun hx => hy (hX b hb hx), h.drawn⟩
end Mod
theorem Old.then {X : Nat → Prop} {w w' w'' : World} (h : Mod X w w') (h' : Old w' w'') : Mod X w w'' := h.trans h' fun _ _ h => h.elim

def World.blkSet (w : World) (b : Nat) (o : Obj) : World := { w with heap := w.heap.setIfInBounds b o }

theorem push_old (w : World) (o : Obj) : Old w (w.alloc o) :=
  ⟨rfl, rfl, rfl, by simp, fun b hb _ => heap_alloc_old w o hb, Nat.le_refl _⟩
theorem push_new (w : World) (o : Obj) : (w.alloc o).heap[w.heap.size]? = some o := heap_alloc_new w o
theorem tick_old (w : World) : Old w (w.drew) := ⟨rfl, rfl, rfl, Nat.le_refl _, fun _ _ _ => rfl, Nat.le_succ _⟩
theorem blkSet_mod (w : World) (b : Nat) (o : Obj) : Mod (· = b) w (World.blkSet w b o) :=
  ⟨rfl, rfl, rfl, by simp [World.blkSet], fun k _ hk => by simp only [World.blkSet]; rw [Array.getElem?_setIfInBounds_ne (fun e => hk e.symm)], Nat.le_refl _⟩
theorem blkSet_at {w : World} {b : Nat} (o : Obj) (h : b < w.heap.size) : (World.blkSet w b o).heap[b]? = some o := by
  simp [World.blkSet, h]
@[simp] theorem blkSet_size (w : World) (b : Nat) (o : Obj) : (World.blkSet w b o).heap.size = w.heap.size := by simp [World.blkSet]

theorem lt_of_blk {w : World} {b : Nat} {o : Obj} (h : w.heap[b]? = some o) : b < w.heap.size := (Array.getElem?_eq_some_iff.1 h).1
theorem cell_blk {w : World} {b : Nat} {c : Array Value} {e : TypeId} {fz : Nat × Nat} (h : w.heap[b]? = some (.cells c e fz)) (i : Nat) : w.cell? ⟨b, i, none⟩ = c[i]? := by
  simp [World.cell?, h]
theorem frozen_blk {w : World} {b : Nat} {c : Array Value} {e : TypeId} (h : w.heap[b]? = some (.cells c e (0, 0))) (i : Nat) : w.frozen? ⟨b, i, none⟩ = false := by
  simp [World.frozen?, h]
theorem setCell_blk {w : World} {b : Nat} {c : Array Value} {e : TypeId} {fz : Nat × Nat} (h : w.heap[b]? = some (.cells c e fz)) (i : Nat) (v : Value) :
    w.setCell ⟨b, i, none⟩ v = World.blkSet w b (.cells (c.setIfInBounds i v) e fz) := by
  have hb := lt_of_blk h
  have hg : w.heap[b] = .cells c e fz := by simpa [Array.getElem?_eq_getElem hb] using h
  simp only [World.setCell, World.blkSet, World.mk.injEq, and_true]
  apply Array.ext
  · simp
  · intro k h1 h2
    rw [Array.getElem_modify, Array.getElem_setIfInBounds (by simpa using h2)]
    split
    · rename_i e; subst e; simp [hg]
    · rfl

/-! ## Chunks that are owned, facts that are shared -/
structure Chunk where
  foot : Nat → Prop
  inv : World → Prop
structure Chunk.Ok (c : Chunk) (w : World) : Prop where
  lt : ∀ b, c.foot b → b < w.heap.size
  loc : ∀ w', (∀ b, c.foot b → w'.heap[b]? = w.heap[b]?) → c.inv w'
theorem Chunk.Ok.inv {c : Chunk} {w : World} (h : c.Ok w) : c.inv w := h.loc w fun _ _ => rfl
theorem Chunk.Ok.keep {c : Chunk} {w w' : World} (h : c.Ok w) (hs : w.heap.size ≤ w'.heap.size) (he : ∀ b, c.foot b → w'.heap[b]? = w.heap[b]?) : c.Ok w' :=
  ⟨fun b hb => Nat.lt_of_lt_of_le (h.lt b hb) hs, fun _ h' => h.loc _ fun b hb => (h' b hb).trans (he b hb)⟩

def blk (b : Nat) (o : Obj) : Chunk := ⟨(· = b), fun w => w.heap[b]? = some o⟩
theorem blk_ok {w : World} {b : Nat} {o : Obj} (h : w.heap[b]? = some o) : (blk b o).Ok w :=
  ⟨fun _ e => by rw [show _ = b from e]; exact lt_of_blk h, fun _ h' => (h' b rfl).trans h⟩

/-- A fact on blocks of F alone. -/
def Sh (F : Nat → Prop) (r : World → Prop) (w : World) : Prop :=
  ∃ G : Nat → Prop, (∀ b, G b → F b) ∧ (∀ b, G b → b < w.heap.size) ∧ ∀ w', (∀ b, G b → w'.heap[b]? = w.heap[b]?) → r w'
namespace Sh
variable {F F' : Nat → Prop} {r r' r'' : World → Prop} {w w' : World}
theorem now (h : Sh F r w) : r w := let ⟨_, _, _, h3⟩ := h; h3 w fun _ _ => rfl
theorem pure (h : ∀ w, r w) : Sh F r w := ⟨fun _ => False, fun _ h => h.elim, fun _ h => h.elim, fun w' _ => h w'⟩
theorem keep (h : Sh F r w) (hs : w.heap.size ≤ w'.heap.size) (he : ∀ b, F b → b < w.heap.size → w'.heap[b]? = w.heap[b]?) (hF : ∀ b, F b → b < w.heap.size → F' b) : Sh F' r w' := by
  obtain ⟨G, h1, h2, h3⟩ := h
  exact ⟨G, fun b hb => hF b (h1 b hb) (h2 b hb), fun b hb => Nat.lt_of_lt_of_le (h2 b hb) hs, fun w'' h' => h3 w'' fun b hb => (h' b hb).trans (he b (h1 b hb) (h2 b hb))⟩
theorem mono (h : Sh F r w) (hF : ∀ b, F b → b < w.heap.size → F' b) : Sh F' r w := h.keep (Nat.le_refl _) (fun _ _ _ => rfl) hF
theorem imp (h : Sh F r w) (hr : ∀ w, r w → r' w) : Sh F r' w := let ⟨G, h1, h2, h3⟩ := h; ⟨G, h1, h2, fun w' h' => hr _ (h3 w' h')⟩
theorem and (h : Sh F r w) (h' : Sh F r' w) : Sh F (fun w => r w ∧ r' w) w := by
  obtain ⟨G, h1, h2, h3⟩ := h
  obtain ⟨G', h1', h2', h3'⟩ := h'
  exact ⟨fun b => G b ∨ G' b, fun b hb => hb.elim (h1 b) (h1' b), fun b hb => hb.elim (h2 b) (h2' b), fun w' hw => ⟨h3 w' fun b hb => hw b (.inl hb), h3' w' fun b hb => hw b (.inr hb)⟩⟩
theorem imp2 (h : Sh F r w) (h' : Sh F r' w) (hr : ∀ w, r w → r' w → r'' w) : Sh F r'' w := (h.and h').imp fun w ⟨a, b⟩ => hr w a b
theorem all {α : Type} {p : α → World → Prop} {l : List α} (h : ∀ x, x ∈ l → Sh F (p x) w) : Sh F (fun w => ∀ x, x ∈ l → p x w) w := by
  induction l with
  | nil => exact pure fun _ _ h => by cases h
  | cons y l ih =>
    refine imp2 (h y (by simp)) (ih fun x hx => h x (by simp [hx])) fun w h1 h2 x hx => ?_
    rcases List.mem_cons.1 hx with rfl | hx
    · exact h1
    · exact h2 x hx
theorem blk {b : Nat} {o : Obj} (h : w.heap[b]? = some o) (hF : F b) : Sh F (fun w => w.heap[b]? = some o) w :=
  ⟨(· = b), fun _ e => by rw [show _ = b from e]; exact hF, fun _ e => by rw [show _ = b from e]; exact lt_of_blk h, fun _ h' => (h' b rfl).trans h⟩
theorem of_chunk {c : Chunk} (h : c.Ok w) (hF : ∀ b, c.foot b → F b) : Sh F c.inv w := ⟨c.foot, hF, h.lt, h.loc⟩
end Sh

def avoid (L : List Chunk) (b : Nat) : Prop := ∀ c, c ∈ L → ¬ c.foot b

/-- The memory as a function sees it: X may be turned of what there was (in w0); L is owned; the facts R are shared, on blocks of F and new ones. -/
structure Mem (F X : Nat → Prop) (w0 : World) (L : List Chunk) (R : List (World → Prop)) (w : World) : Prop where
  mod : Mod X w0 w
  ok : ∀ c, c ∈ L → c.Ok w
  disj : L.Pairwise fun c d => ∀ b, c.foot b → ¬ d.foot b
  in_ : ∀ c, c ∈ L → ∀ b, c.foot b → X b ∨ w0.heap.size ≤ b
  sh : ∀ r, r ∈ R → Sh (fun b => (F b ∨ w0.heap.size ≤ b) ∧ avoid L b) r w

theorem getElem?_set_mem {α : Type} {l : List α} {i : Nat} {a x : α} (h : x ∈ l.set i a) : x = a ∨ ∃ j, j ≠ i ∧ l[j]? = some x := by
  obtain ⟨j, hj⟩ := List.getElem?_of_mem h
  by_cases e : i = j
  · subst e
    rw [List.getElem?_set_self'] at hj
    cases hl : l[i]? with
    | none => simp [hl] at hj
    | some y => simp [hl] at hj; exact .inl hj.symm
  · rw [List.getElem?_set_ne e] at hj
    exact .inr ⟨j, fun h => e h.symm, hj⟩

namespace Mem
variable {F X : Nat → Prop} {w0 w w' : World} {L : List Chunk} {R : List (World → Prop)}

theorem start (w : World) (hR : ∀ r, r ∈ R → Sh F r w) : Mem F X w [] R w :=
  ⟨Mod.refl _ _, fun _ h => (by cases h), List.Pairwise.nil, fun _ h => (by cases h), fun r hr => (hR r hr).mono fun _ hb _ => ⟨.inl hb, fun _ h => (by cases h)⟩⟩
theorem rep (M : Mem F X w0 L R w) (i : Nat) {r : World → Prop} (h : R[i]? = some r) : r w := (M.sh r (List.mem_of_getElem? h)).now
theorem shr (M : Mem F X w0 L R w) (i : Nat) {r : World → Prop} (h : R[i]? = some r) : Sh (fun b => (F b ∨ w0.heap.size ≤ b) ∧ avoid L b) r w := M.sh r (List.mem_of_getElem? h)
theorem chunk (M : Mem F X w0 L R w) (i : Nat) {c : Chunk} (h : L[i]? = some c) : c.Ok w := M.ok c (List.mem_of_getElem? h)
theorem blk (M : Mem F X w0 L R w) (i : Nat) {b : Nat} {o : Obj} (h : L[i]? = some (Tp.blk b o)) : w.heap[b]? = some o := (M.chunk i h).inv
theorem cell (M : Mem F X w0 L R w) (i : Nat) {b : Nat} {c : Array Value} {e : TypeId} {fz : Nat × Nat} (h : L[i]? = some (Tp.blk b (.cells c e fz))) (k : Nat) : w.cell? ⟨b, k, none⟩ = c[k]? := cell_blk (M.blk i h) k

/-- The old world lies as it did; new blocks may have come. -/
theorem old (M : Mem F X w0 L R w) (h : Old w w') : Mem F X w0 L R w' :=
  ⟨M.mod.trans h fun _ _ h => h.elim, fun c hc => (M.ok c hc).keep h.size fun b hb => h.block b ((M.ok c hc).lt b hb) id, M.disj, M.in_,
    fun r hr => (M.sh r hr).keep h.size (fun b _ hb => h.block b hb id) fun _ hb _ => hb⟩
theorem tick (M : Mem F X w0 L R w) : Mem F X w0 L R w.drew := M.old (tick_old w)

/-- Another fact. -/
theorem add (M : Mem F X w0 L R w) {r : World → Prop} (h : Sh (fun b => (F b ∨ w0.heap.size ≤ b) ∧ avoid L b) r w) : Mem F X w0 L (r :: R) w :=
  ⟨M.mod, M.ok, M.disj, M.in_, fun r' hr => by
    rcases List.mem_cons.1 hr with rfl | hr
    · exact h
    · exact M.sh _ hr⟩
theorem add_imp (M : Mem F X w0 L R w) (i : Nat) {r r' : World → Prop} (h : R[i]? = some r) (hr : ∀ w, r w → r' w) : Mem F X w0 L (r' :: R) w := M.add ((M.shr i h).imp hr)
theorem add_pure (M : Mem F X w0 L R w) {r' : World → Prop} (hr : ∀ w, r' w) : Mem F X w0 L (r' :: R) w := M.add (.pure hr)
/-- Other facts that follow. -/
theorem facts (M : Mem F X w0 L R w) {R' : List (World → Prop)} (h : ∀ r, r ∈ R' → Sh (fun b => (F b ∨ w0.heap.size ≤ b) ∧ avoid L b) r w) : Mem F X w0 L R' w := ⟨M.mod, M.ok, M.disj, M.in_, h⟩
theorem sub (M : Mem F X w0 L R w) {L' : List Chunk} {R' : List (World → Prop)} (hL : L'.Sublist L) (hR : ∀ r, r ∈ R' → r ∈ R) : Mem F X w0 L' R' w :=
  ⟨M.mod, fun c hc => M.ok c (hL.subset hc), M.disj.sublist hL, fun c hc => M.in_ c (hL.subset hc), fun r hr => (M.sh r (hR r hr)).mono fun _ hb _ => ⟨hb.1, fun c hc => hb.2 c (hL.subset hc)⟩⟩

/-- A chunk of new blocks. -/
theorem own (M : Mem F X w0 L R w) (h : Old w w') {c : Chunk} (hc : c.Ok w') (hn : ∀ b, c.foot b → w.heap.size ≤ b) : Mem F X w0 (c :: L) R w' := by
  refine ⟨M.mod.trans h fun _ _ h => h.elim, ?_, ?_, ?_, ?_⟩
  · intro d hd
    rcases List.mem_cons.1 hd with rfl | hd
    · exact hc
    · exact (M.ok d hd).keep h.size fun b hb => h.block b ((M.ok d hd).lt b hb) id
  · refine List.pairwise_cons.2 ⟨fun d hd b hb hb' => ?_, M.disj⟩
    have h1 := hn b hb
    have h2 := (M.ok d hd).lt b hb'
    omega
  · intro d hd b hb
    rcases List.mem_cons.1 hd with rfl | hd
    · exact .inr (Nat.le_trans M.mod.size (hn b hb))
    · exact M.in_ d hd b hb
  · intro r hr
    refine (M.sh r hr).keep h.size (fun b _ hb => h.block b hb id) fun b hb hlt => ⟨hb.1, fun d hd => ?_⟩
    rcases List.mem_cons.1 hd with rfl | hd
    · exact fun hf => by have := hn b hf; omega
    · exact hb.2 d hd
theorem push (M : Mem F X w0 L R w) (o : Obj) : Mem F X w0 (Tp.blk w.heap.size o :: L) R (w.alloc o) :=
  M.own (push_old w o) (blk_ok (push_new w o)) fun _ hb => Nat.le_of_eq (Eq.symm hb)
theorem disj_ne (M : Mem F X w0 L R w) {i j : Nat} {c d : Chunk} (hi : L[i]? = some c) (hj : L[j]? = some d) (hne : i ≠ j) : ∀ b, c.foot b → ¬ d.foot b := by
  have hp := List.pairwise_iff_getElem.1 M.disj
  obtain ⟨h1, e1⟩ := List.getElem?_eq_some_iff.1 hi
  obtain ⟨h2, e2⟩ := List.getElem?_eq_some_iff.1 hj
  intro b hb hb'
  rcases Nat.lt_or_gt_of_ne hne with h | h
  · exact hp i j h1 h2 h b (e1 ▸ hb) (e2 ▸ hb')
  · exact hp j i h2 h1 h b (e2 ▸ hb') (e1 ▸ hb)
/-- One chunk has turned, into one of its own blocks and new ones. -/
theorem turn (M : Mem F X w0 L R w) (i : Nat) {c c' : Chunk} (hi : L[i]? = some c) (h : Mod c.foot w w') (hc : c'.Ok w') (hf : ∀ b, c'.foot b → c.foot b ∨ w.heap.size ≤ b) :
    Mem F X w0 (L.set i c') R w' := by
  have hcm : c ∈ L := List.mem_of_getElem? hi
  have hlt : i < L.length := (List.getElem?_eq_some_iff.1 hi).1
  refine ⟨M.mod.trans h fun b hb hx => (M.in_ c hcm b hx).resolve_right (by omega), ?_, ?_, ?_, ?_⟩
  · intro d hd
    rcases getElem?_set_mem hd with rfl | ⟨j, hj, hd⟩
    · exact hc
    · have hdo := M.ok d (List.mem_of_getElem? hd)
      exact hdo.keep h.size fun b hb => h.block b (hdo.lt b hb) fun hx => M.disj_ne hi hd hj.symm b hx hb
  · rw [List.pairwise_iff_getElem]
    intro j k hj hk hjk b hb hb'
    rw [List.length_set] at hj hk
    rw [List.getElem_set] at hb hb'
    have hp := List.pairwise_iff_getElem.1 M.disj
    by_cases ej : i = j
    · subst ej
      rw [if_pos rfl] at hb
      rw [if_neg (by omega)] at hb'
      rcases hf b hb with h1 | h1
      · exact M.disj_ne hi (List.getElem?_eq_getElem hk) (by omega) b h1 hb'
      · have := (M.ok _ (List.getElem_mem hk)).lt b hb'; omega
    · rw [if_neg ej] at hb
      by_cases ek : i = k
      · subst ek
        rw [if_pos rfl] at hb'
        rcases hf b hb' with h1 | h1
        · exact M.disj_ne (List.getElem?_eq_getElem hj) hi (by omega) b hb h1
        · have := (M.ok _ (List.getElem_mem hj)).lt b hb; omega
      · rw [if_neg ek] at hb'
        exact hp j k hj hk hjk b hb hb'
  · intro d hd b hb
    rcases getElem?_set_mem hd with rfl | ⟨j, _, hd⟩
    · rcases hf b hb with h1 | h1
      · exact M.in_ c hcm b h1
      · exact .inr (Nat.le_trans M.mod.size h1)
    · exact M.in_ d (List.mem_of_getElem? hd) b hb
  · intro r hr
    refine (M.sh r hr).keep h.size (fun b hb hlt' => h.block b hlt' (hb.2 c hcm)) fun b hb hlt' => ⟨hb.1, fun d hd hdf => ?_⟩
    rcases getElem?_set_mem hd with rfl | ⟨j, _, hd⟩
    · rcases hf b hdf with h1 | h1
      · exact hb.2 c hcm h1
      · omega
    · exact hb.2 d (List.mem_of_getElem? hd) hdf
theorem setBlk (M : Mem F X w0 L R w) (i : Nat) {b : Nat} {o : Obj} (o' : Obj) (hi : L[i]? = some (Tp.blk b o)) : Mem F X w0 (L.set i (Tp.blk b o')) R (World.blkSet w b o') :=
  M.turn i hi (blkSet_mod w b o') (blk_ok (blkSet_at o' (lt_of_blk (M.blk i hi)))) fun _ h => .inl h
/-- A chunk of new blocks is given up: what it holds is shared from now on. -/
theorem freeze (M : Mem F X w0 L R w) (i : Nat) {c : Chunk} (hi : L[i]? = some c) (hF : ∀ b, c.foot b → F b ∨ w0.heap.size ≤ b) : Mem F X w0 (L.eraseIdx i) (c.inv :: R) w := by
  have hcm : c ∈ L := List.mem_of_getElem? hi
  have hs : (L.eraseIdx i).Sublist L := List.eraseIdx_sublist ..
  refine (M.sub hs fun r h => h).add (Sh.of_chunk (M.ok c hcm) fun b hb => ⟨hF b hb, fun d hd hdf => ?_⟩)
  obtain ⟨j, hj⟩ := List.getElem?_of_mem hd
  rw [List.getElem?_eraseIdx] at hj
  split at hj
  · exact M.disj_ne hi hj (by omega) b hb hdf
  · exact M.disj_ne hi hj (by omega) b hb hdf
end Mem
end Tp
