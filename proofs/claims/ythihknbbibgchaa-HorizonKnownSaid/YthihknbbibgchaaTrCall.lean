/- Calls of functions whose contract is told over the memory. -/
import Derived.Test.YthihknbbibgchaaTrOwn
namespace Tp
open Go

/-- the blocks of some chunks -/
def Foots (C : List Chunk) (b : Nat) : Prop := ∃ c, c ∈ C ∧ c.foot b
/-- the blocks that shared facts may be on -/
def Outer (F : Nat → Prop) (w0 : World) (L : List Chunk) (b : Nat) : Prop := (F b ∨ w0.heap.size ≤ b) ∧ avoid L b

/-- facts, each of which holds -/
def Facts (G : Nat → Prop) (w : World) : List (World → Prop) → Prop
  | [] => True
  | r :: R => Sh G r w ∧ Facts G w R
theorem Facts.all {G : Nat → Prop} {w : World} : ∀ {R : List (World → Prop)}, Facts G w R → ∀ r, r ∈ R → Sh G r w
  | [], _, _, h => by cases h
  | _ :: _, h, r, hr => by
    rcases List.mem_cons.1 hr with rfl | hr
    · exact h.1
    · exact Facts.all h.2 r hr

/-- some of a list, by their places -/
def Sel (L L' : List Chunk) (is : List Nat) : Prop := is.map (fun i : Nat => L[i]?) = L'.map some

namespace Mem
variable {F X : Nat → Prop} {w0 w w' : World} {L L' C C' D : List Chunk} {R R' : List (World → Prop)}

theorem sel (M : Mem F X w0 L R w) (is : List Nat) (hL : Sel L L' is) (hn : is.Nodup) : Mem F X w0 L' R w := by
  have at_ : ∀ (k : Nat) (c : Chunk), L'[k]? = some c → ∃ j : Nat, is[k]? = some j ∧ L[j]? = some c := by
    intro k c hk
    have : (is.map (fun i : Nat => L[i]?))[k]? = (L'.map some)[k]? := by rw [hL]
    rw [List.getElem?_map, List.getElem?_map, hk] at this
    cases hj : is[k]? with
    | none => rw [hj] at this; cases this
    | some j => rw [hj] at this; simp at this; exact ⟨j, rfl, this⟩
  have mem : ∀ c, c ∈ L' → c ∈ L := fun c hc => by
    obtain ⟨k, hk⟩ := List.getElem?_of_mem hc
    obtain ⟨j, _, h2⟩ := at_ k c hk
    exact List.mem_of_getElem? h2
  refine ⟨M.mod, fun c hc => M.ok c (mem c hc), ?_, fun c hc => M.in_ c (mem c hc), fun r hr => (M.sh r hr).mono fun b hb _ => ⟨hb.1, fun c hc => hb.2 c (mem c hc)⟩⟩
  rw [List.pairwise_iff_getElem]
  intro i j hi hj hij
  obtain ⟨a, ha1, ha2⟩ := at_ i _ (List.getElem?_eq_getElem hi)
  obtain ⟨b, hb1, hb2⟩ := at_ j _ (List.getElem?_eq_getElem hj)
  refine M.disj_ne ha2 hb2 fun e => ?_
  subst e
  obtain ⟨k1, e1⟩ := List.getElem?_eq_some_iff.1 ha1
  obtain ⟨k2, e2⟩ := List.getElem?_eq_some_iff.1 hb1
  exact List.pairwise_iff_getElem.1 hn i j k1 k2 hij (e1.trans e2.symm)

/-- the memory, told anew: these chunks, these facts -/
theorem close (M : Mem F X w0 L R w) (is : List Nat) (hL : Sel L L' is) (hn : is.Nodup) (hR : Facts (Outer F w0 L) w R') : Mem F X w0 L' R' w :=
  (M.facts hR.all).sel is hL hn

theorem shr' (M : Mem F X w0 L R w) (i : Nat) {r : World → Prop} (h : R[i]? = some r) : Sh (Outer F w0 L) r w := M.shr i h

/-- the memory as a function sees it that is called with the chunks C -/
theorem enter (M : Mem F X w0 L R w) (is : List Nat) (hL : Sel L (C ++ D) is) (hn : is.Nodup) (hR : Facts (Outer F w0 L) w R') : Mem (Outer F w0 (C ++ D)) (Foots C) w C R' w := by
  have M' := M.sel is hL hn
  refine ⟨Mod.refl _ _, fun c hc => M'.ok c (by simp [hc]), (List.pairwise_append.1 M'.disj).1, fun c hc b hb => .inl ⟨c, hc, hb⟩, fun r hr => (hR.all r hr).mono fun b hb _ => ?_⟩
  have : ∀ c, c ∈ C ++ D → ¬ c.foot b := fun c hc => by
    obtain ⟨k, hk⟩ := List.getElem?_of_mem hc
    have : (is.map (fun i : Nat => L[i]?))[k]? = ((C ++ D).map some)[k]? := by rw [hL]
    rw [List.getElem?_map, List.getElem?_map, hk] at this
    cases hj : is[k]? with
    | none => rw [hj] at this; cases this
    | some j => rw [hj] at this; simp at this; exact hb.2 c (List.mem_of_getElem? this)
  exact ⟨.inl ⟨hb.1, this⟩, fun c hc => this c (by simp [hc])⟩
/-- and as it is when the function has returned -/
theorem leave (M : Mem F X w0 L R w) (is : List Nat) (hL : Sel L (C ++ D) is) (hn : is.Nodup) (m : Mem (Outer F w0 (C ++ D)) (Foots C) w C' R' w') : Mem F X w0 (C' ++ D) (R' ++ R) w' := by
  have M' := M.sel is hL hn
  have hdis : ∀ c, c ∈ D → ∀ b, c.foot b → ¬ Foots C b := fun d hd b hb ⟨c, hc, hcb⟩ => (List.pairwise_append.1 M'.disj).2.2 c hc d hd b hcb hb
  have hlt : ∀ c, c ∈ D → ∀ b, c.foot b → b < w.heap.size := fun d hd b hb => (M'.ok d (by simp [hd])).lt b hb
  refine ⟨M'.mod.trans m.mod ?_, ?_, ?_, ?_, ?_⟩
  · rintro b hb ⟨c, hc, hcb⟩
    exact (M'.in_ c (by simp [hc]) b hcb).resolve_right (by omega)
  · intro c hc
    rcases List.mem_append.1 hc with hc | hc
    · exact m.ok c hc
    · exact (M'.ok c (by simp [hc])).keep m.mod.size fun b hb => m.mod.block b (hlt c hc b hb) (hdis c hc b hb)
  · refine List.pairwise_append.2 ⟨m.disj, (List.pairwise_append.1 M'.disj).2.1, fun c hc d hd b hb hb' => ?_⟩
    rcases m.in_ c hc b hb with h | h
    · exact hdis d hd b hb' h
    · have := hlt d hd b hb'; omega
  · intro c hc b hb
    rcases List.mem_append.1 hc with hc | hc
    · rcases m.in_ c hc b hb with ⟨d, hd, hdb⟩ | h
      · exact M'.in_ d (by simp [hd]) b hdb
      · exact .inr (Nat.le_trans M'.mod.size h)
    · exact M'.in_ c (by simp [hc]) b hb
  · intro r hr
    rcases List.mem_append.1 hr with hr | hr
    · refine (m.sh r hr).mono fun b hb _ => ?_
      obtain ⟨h1, h2⟩ := hb
      rcases h1 with h1 | h1
      · refine ⟨h1.1, fun c hc => ?_⟩
        rcases List.mem_append.1 hc with hc | hc
        · exact h2 c hc
        · exact h1.2 c (by simp [hc])
      · refine ⟨.inr (Nat.le_trans M'.mod.size h1), fun c hc => ?_⟩
        rcases List.mem_append.1 hc with hc | hc
        · exact h2 c hc
        · exact fun hf => by have := hlt c hc b hf; omega
    · refine (M'.sh r hr).keep m.mod.size (fun b hb hlt' => m.mod.block b hlt' fun ⟨c, hc, hcb⟩ => hb.2 c (by simp [hc]) hcb) fun b hb hlt' => ⟨hb.1, fun c hc hf => ?_⟩
      rcases List.mem_append.1 hc with hc | hc
      · rcases m.in_ c hc b hf with ⟨d, hd, hdb⟩ | h
        · exact hb.2 d (by simp [hd]) hdb
        · omega
      · exact hb.2 c (by simp [hc]) hf
theorem kept (M : Mem F X w0 L R w) (is : List Nat) (hL : Sel L (C ++ D) is) (hn : is.Nodup) (m : Mem (Outer F w0 (C ++ D)) (Foots C) w C' R' w') : ∀ c, c ∈ D → ∀ b, c.foot b → w'.heap[b]? = w.heap[b]? := by
  have M' := M.sel is hL hn
  intro d hd b hb
  exact m.mod.block b ((M'.ok d (by simp [hd])).lt b hb) fun ⟨c, hc, hcb⟩ => (List.pairwise_append.1 M'.disj).2.2 c hc d hd b hcb hb
/-- a function that is handed no chunk, and hands back facts on what is shared -/
theorem enter0 (M : Mem F X w0 L R w) (hR : Facts (Outer F w0 L) w R') : Mem (Outer F w0 L) (fun _ => False) w [] R' w :=
  ⟨Mod.refl _ _, fun _ h => (by cases h), List.Pairwise.nil, fun _ h => (by cases h), fun r hr => (hR.all r hr).mono fun _ hb _ => ⟨.inl hb, fun _ h => (by cases h)⟩⟩
theorem leave0 (M : Mem F X w0 L R w) (m : Mem (Outer F w0 L) (fun _ => False) w C' R' w') : Mem F X w0 (C' ++ L) (R' ++ R) w' := by
  have M' : Mem F X w0 L R w := M
  have hlt : ∀ c, c ∈ L → ∀ b, c.foot b → b < w.heap.size := fun d hd b hb => (M'.ok d hd).lt b hb
  refine ⟨M'.mod.trans m.mod fun _ _ h => h.elim, ?_, ?_, ?_, ?_⟩
  · intro c hc
    rcases List.mem_append.1 hc with hc | hc
    · exact m.ok c hc
    · exact (M'.ok c hc).keep m.mod.size fun b hb => m.mod.block b (hlt c hc b hb) id
  · refine List.pairwise_append.2 ⟨m.disj, M'.disj, fun c hc d hd b hb hb' => ?_⟩
    rcases m.in_ c hc b hb with h | h
    · exact h
    · have := hlt d hd b hb'; omega
  · intro c hc b hb
    rcases List.mem_append.1 hc with hc | hc
    · rcases m.in_ c hc b hb with h | h
      · exact h.elim
      · exact .inr (Nat.le_trans M'.mod.size h)
    · exact M'.in_ c hc b hb
  · intro r hr
    rcases List.mem_append.1 hr with hr | hr
    · refine (m.sh r hr).mono fun b hb _ => ?_
      obtain ⟨h1, h2⟩ := hb
      rcases h1 with h1 | h1
      · refine ⟨h1.1, fun c hc => ?_⟩
        rcases List.mem_append.1 hc with hc | hc
        · exact h2 c hc
        · exact h1.2 c hc
      · refine ⟨.inr (Nat.le_trans M'.mod.size h1), fun c hc => ?_⟩
        rcases List.mem_append.1 hc with hc | hc
        · exact h2 c hc
        · exact fun hf => by have := hlt c hc b hf; omega
    · refine (M'.sh r hr).keep m.mod.size (fun b hb hlt' => m.mod.block b hlt' id) fun b hb hlt' => ⟨hb.1, fun c hc hf => ?_⟩
      rcases List.mem_append.1 hc with hc | hc
      · rcases m.in_ c hc b hf with h | h
        · exact h
        · omega
      · exact hb.2 c hc hf
theorem kept0 (M : Mem F X w0 L R w) (m : Mem (Outer F w0 L) (fun _ => False) w C' R' w') : ∀ c, c ∈ L → ∀ b, c.foot b → w'.heap[b]? = w.heap[b]? :=
  fun d hd b hb => m.mod.block b ((M.ok d hd).lt b hb) id
/-- a function that hands back no facts: what it reads may be on what is owned -/
theorem enterW (M : Mem F X w0 L R w) (is : List Nat) (hL : Sel L (C ++ D) is) (hn : is.Nodup) (hR : Facts (avoid C) w R') : Mem (avoid C) (Foots C) w C R' w := by
  have M' := M.sel is hL hn
  exact ⟨Mod.refl _ _, fun c hc => M'.ok c (by simp [hc]), (List.pairwise_append.1 M'.disj).1, fun c hc b hb => .inl ⟨c, hc, hb⟩, fun r hr => (hR.all r hr).mono fun b hb _ => ⟨.inl hb, hb⟩⟩
theorem leaveW (M : Mem F X w0 L R w) (is : List Nat) (hL : Sel L (C ++ D) is) (hn : is.Nodup) (m : Mem (avoid C) (Foots C) w C' [] w') : Mem F X w0 (C' ++ D) R w' := by
  refine M.leave is hL hn (R' := []) ⟨m.mod, m.ok, m.disj, m.in_, fun _ h => (by cases h)⟩
theorem keptW (M : Mem F X w0 L R w) (is : List Nat) (hL : Sel L (C ++ D) is) (hn : is.Nodup) (m : Mem (avoid C) (Foots C) w C' [] w') : ∀ c, c ∈ D → ∀ b, c.foot b → w'.heap[b]? = w.heap[b]? :=
  M.kept is hL hn (R' := []) ⟨m.mod, m.ok, m.disj, m.in_, fun _ h => (by cases h)⟩
theorem sel_mem {L L' : List Chunk} {is : List Nat} (h : Sel L L' is) : ∀ c, c ∈ L' → c ∈ L := fun c hc => by
  obtain ⟨k, hk⟩ := List.getElem?_of_mem hc
  have : (is.map (fun i : Nat => L[i]?))[k]? = (L'.map some)[k]? := by rw [h]
  rw [List.getElem?_map, List.getElem?_map, hk] at this
  cases hj : is[k]? with
  | none => rw [hj] at this; cases this
  | some j => rw [hj] at this; simp at this; exact List.mem_of_getElem? this
/-- a shared fact, for such a function -/
theorem wideR (M : Mem F X w0 L R w) (is : List Nat) (hL : Sel L (C ++ D) is) (i : Nat) {r : World → Prop} (h : R[i]? = some r) : Sh (avoid C) r w :=
  (M.shr i h).mono fun _ hb _ c hc => hb.2 c (sel_mem hL c (by simp [hc]))
/-- what a chunk tells, for such a function -/
theorem wideC (M : Mem F X w0 L R w) (is : List Nat) (hL : Sel L (C ++ D) is) (hn : is.Nodup) (i : Nat) {c : Chunk} (h : D[i]? = some c) : Sh (avoid C) c.inv w := by
  have M' := M.sel is hL hn
  have hc := List.mem_of_getElem? h
  exact Sh.of_chunk (M'.ok c (by simp [hc])) fun b hb d hd hdb => (List.pairwise_append.1 M'.disj).2.2 d hd c hc b hdb hb
theorem begin {G : Nat → Prop} (M : Mem G X w L R w) (R' : List (World → Prop)) (h : ∀ r, r ∈ R' → r ∈ R) : Mem G X w L R' w := M.facts fun r hr => M.sh r (h r hr)
end Mem

/-! ## Chunks that are made of others -/
/-- chunks of which some things are not told: which they are, is i -/
def Pack {ι : Type} (S : Nat → Prop) (Ls : ι → List Chunk) (p : ι → Prop) : Chunk :=
  ⟨S, fun w => ∃ i, p i ∧ S = Foots (Ls i) ∧ ((Ls i).Pairwise fun c d => ∀ b, c.foot b → ¬ d.foot b) ∧ ∀ c, c ∈ Ls i → c.Ok w⟩
namespace Mem
variable {F X : Nat → Prop} {w0 w w' : World} {L L' C C' D : List Chunk} {R R' : List (World → Prop)} {ι : Type} {S : Nat → Prop} {Ls : ι → List Chunk} {p : ι → Prop}
/-- a chunk takes another one in -/
theorem take (M : Mem F X w0 (C' ++ L) R w) (c : Chunk) (hf : c.foot = Foots C') (hc : (∀ w', (∀ d, d ∈ C' → d.Ok w') → c.inv w')) : Mem F X w0 (c :: L) R w := by
  have hpw := List.pairwise_append.1 M.disj
  have hok : ∀ c, c ∈ C' → c.Ok w := fun c hc => M.ok c (by simp [hc])
  have hff : ∀ b, c.foot b → Foots C' b := fun b hb => by rw [← hf]; exact hb
  have hfb : ∀ b, Foots C' b → c.foot b := fun b hb => by rw [hf]; exact hb
  refine ⟨M.mod, fun d hd => ?_, List.pairwise_cons.2 ⟨fun d hd b hb => let ⟨c, hc, hb⟩ := hff b hb; hpw.2.2 c hc d hd b hb, hpw.2.1⟩, fun d hd b hb => ?_, fun r hr => (M.sh r hr).mono fun b hb _ => ⟨hb.1, fun d hd hcb => ?_⟩⟩
  · rcases List.mem_cons.1 hd with rfl | hd
    · refine ⟨fun b hb => let ⟨c, hc, hb⟩ := hff b hb; (hok c hc).lt b hb, fun w' hw => hc w' fun e he => ⟨fun b hb => ?_, fun w'' hw' => (hok e he).loc w'' fun b hb => (hw' b hb).trans (hw b (hfb b ⟨e, he, hb⟩))⟩⟩
      have h1 := hw b (hfb b ⟨e, he, hb⟩)
      have h2 := (hok e he).lt b hb
      rw [Array.getElem?_eq_getElem h2] at h1
      exact (Array.getElem?_eq_some_iff.1 h1).1
    · exact M.ok d (by simp [hd])
  · rcases List.mem_cons.1 hd with rfl | hd
    · obtain ⟨c, hc, hb⟩ := hff b hb
      exact M.in_ c (by simp [hc]) b hb
    · exact M.in_ d (by simp [hd]) b hb
  · rcases List.mem_cons.1 hd with rfl | hd
    · obtain ⟨c, hc, hcb⟩ := hff b hcb
      exact hb.2 c (by simp [hc]) hcb
    · exact hb.2 d (by simp [hd]) hcb
end Mem

section
variable {P : Program} {n : Nat} {Q : Exit → Env → World → Prop} {ρ : Env} {w w0 : World} {ops : Array Oper} {rest : List Oper} {F X : Nat → Prop} {L L' : List Chunk} {R : List (World → Prop)}
variable {d : Option Nat} {op : Op} {ty : TypeId} {pos : String} {aft : Array Edge} {g : Option (Nat × Bool)}
/-- a call -/
theorem WL.callX {f : FuncId} {args : List Value} {post : Value → World → Prop} (hg : ρ.want ops g = true)
    (h : Rets P f args.toArray w post) (hc : CallsF P op ty ρ w f args.toArray) (k : ∀ v w', post v w' → WL P n ops rest Q (ρ.put d v) w') : WL P n ops (⟨d, op, ty, pos, aft, g⟩ :: rest) Q ρ w :=
  WL.call hg hc h k
end
section
variable {P : Program} {ops : Array Oper} {ld mk : List Nat} {Q : Env → World → Prop} {i : Nat} {d : Option Nat} {op : Op} {ty : TypeId} {pos : String} {aft : Array Edge} {g : Option (Nat × Bool)}
  {rest : List Nat} {ρ : Env} {F X : Nat → Prop} {w0 : World} {Lp L : List Chunk} {Rp R : List (World → Prop)}
theorem TW.callX {f : FuncId} {args : List Value} {ι : Type} (p : ι → Value → Prop) (L' : ι → List Chunk) (R' : ι → List (World → Prop)) (hi : ops[i]? = some ⟨d, op, ty, pos, aft, g⟩) (hl : i ∈ ld) (hw : ρ.want ops g = true)
    (hL : ∀ x, Lp.Sublist (L' x)) (hR : ∀ x r, r ∈ Rp → r ∈ R' x)
    (h : ∀ A w, Mem F X w0 (fl A :: L) R w → Rets P f args.toArray w fun v w' => ∃ x, p x v ∧ Mem F X w0 (fl A :: L' x) (R' x) w' ∧ ∀ b, A b → w'.heap[b]? = w.heap[b]?)
    (hc : ∀ w, CallsF P op ty ρ w f args.toArray)
    (k : ∀ x v, p x v → (∃ A w, Mem F X w0 (fl A :: L' x) (R' x) w) → TW P ops ld mk (Dm F X w0 Lp Rp) Q rest (ρ.put d v) (MemA F X w0 (L' x) (R' x))) (hm : i ∉ mk := by decide) : TW P ops ld mk (Dm F X w0 Lp Rp) Q (i :: rest) ρ (MemA F X w0 L R) :=
  .loudx (hm := hm) (fun x v A w => p x v ∧ MemA F X w0 (L' x) (R' x) A w) hi hl hw (fun x v => (good_mem (hL x) (hR x)).and)
    (fun A w M => Does.call' (hc w) ((h A w M).mono fun v w' ⟨x, h1, h2, h3⟩ => ⟨⟨x, h1, h2⟩, h3⟩))
    fun x v ⟨A, w, hp, hM⟩ => (k x v hp ⟨A, w, hM⟩).weaken (fun _ _ hs => hs.2) fun _ _ _ h1 h2 _ => ⟨h1.1, h2⟩
end
end Tp
namespace Tp
open Go
namespace Mem
variable {F X : Nat → Prop} {w0 w w' : World} {L L' C C' D : List Chunk} {R R' : List (World → Prop)}
theorem enterW0 (M : Mem F X w0 L R w) (hR : Facts (fun _ => True) w R') : Mem (fun _ => True) (fun _ => False) w [] R' w :=
  ⟨Mod.refl _ _, fun _ h => (by cases h), List.Pairwise.nil, fun _ h => (by cases h), fun r hr => (hR.all r hr).mono fun _ hb _ => ⟨.inl hb, fun _ h => (by cases h)⟩⟩
theorem leaveW0 (M : Mem F X w0 L R w) (m : Mem (fun _ => True) (fun _ => False) w C' [] w') : Mem F X w0 (C' ++ L) R w' :=
  M.leave0 (R' := []) ⟨m.mod, m.ok, m.disj, m.in_, fun _ h => (by cases h)⟩
theorem keptW0 (M : Mem F X w0 L R w) (m : Mem (fun _ => True) (fun _ => False) w C' [] w') : ∀ c, c ∈ L → ∀ b, c.foot b → w'.heap[b]? = w.heap[b]? :=
  fun d hd b hb => m.mod.block b ((M.ok d hd).lt b hb) id
theorem wideR0 (M : Mem F X w0 L R w) (i : Nat) {r : World → Prop} (h : R[i]? = some r) : Sh (fun _ => True) r w := (M.shr i h).mono fun _ _ _ => trivial
theorem wideC0 (M : Mem F X w0 L R w) (i : Nat) {c : Chunk} (h : L[i]? = some c) : Sh (fun _ => True) c.inv w := Sh.of_chunk (M.chunk i h) fun _ _ => trivial
end Mem
end Tp
namespace Tp
open Go
section
variable {P : Program} {ops : Array Oper} {ld mk : List Nat} {Q : Env → World → Prop} {i : Nat} {d : Option Nat} {op : Op} {ty : TypeId} {pos : String} {aft : Array Edge} {g : Option (Nat × Bool)}
  {rest : List Nat} {ρ : Env} {F X : Nat → Prop} {w0 : World} {Lp L : List Chunk} {Rp R : List (World → Prop)}
/-- a read of what is turned in the same region, in whatever order among such reads -/
theorem TW.readP {v : Value} (hi : ops[i]? = some ⟨d, op, ty, pos, aft, g⟩) (hl : i ∈ ld) (hm : i ∈ mk) (hw : ρ.want ops g = true)
    (h : ∀ A w, Mem F X w0 (fl A :: L) R w → Step P op ty ρ w v w)
    (k : TW P ops ld mk (Dm F X w0 Lp Rp) Q rest (ρ.put d v) (MemA F X w0 L R)) : TW P ops ld mk (Dm F X w0 Lp Rp) Q (i :: rest) ρ (MemA F X w0 L R) :=
  .peek hi hl hm hw (fun A w M => .inl ⟨v, w, h A w M, rfl, M, fun _ _ => rfl⟩) k
end
end Tp
namespace Tp
open Go
namespace Mem
variable {F X : Nat → Prop} {w0 w w' : World} {L L' C C' D : List Chunk} {R R' : List (World → Prop)}
/-- what a call hands back as its caller's own is shared at once -/
theorem leaveW0F (M : Mem F X w0 L R w) (m : Mem (fun _ => True) (fun _ => False) w C' [] w') (hR : ∀ r, r ∈ R' → ∃ c, c ∈ C' ∧ ∀ w, c.inv w → r w) : Mem F X w0 L (R' ++ R) w' := by
  have M1 : Mem F X w0 L R w' := M.old m.mod
  refine M1.facts fun r hr => ?_
  rcases List.mem_append.1 hr with hr | hr
  · obtain ⟨c, hc, hi⟩ := hR r hr
    refine (Sh.of_chunk (m.ok c hc) fun b hb => ?_).imp hi
    have hn : w.heap.size ≤ b := (m.in_ c hc b hb).resolve_left id
    exact ⟨.inr (Nat.le_trans M.mod.size hn), fun d hd hdb => by have := (M.ok d hd).lt b hdb; omega⟩
  · exact M1.sh r hr
theorem leaveF1 {e : TypeId} {size n : Nat} {v : Value} {cs : List Value} (M : Mem F X w0 L R w) (m : Mem (fun _ => True) (fun _ => False) w [Tp.own e size v n cs] [] w') : Mem F X w0 L (SlAt size v n cs :: R) w' :=
  M.leaveW0F (R' := [_]) m fun r hr => by
    rw [List.mem_singleton.1 hr]; exact ⟨_, List.mem_singleton.2 rfl, fun _ h => own_slAt h⟩
end Mem
end Tp
