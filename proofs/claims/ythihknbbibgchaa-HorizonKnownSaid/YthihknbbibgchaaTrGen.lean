/- What the generated walks lean on. -/
import Derived.Test.YthihknbbibgchaaTrOps
import Derived.WalkSpells
namespace Tp
open Go

/-! ## Regions in any order, over the memory -/
def fl (A : Nat → Prop) : Chunk := ⟨A, fun _ => True⟩
def MemA (F X : Nat → Prop) (w0 : World) (L : List Chunk) (R : List (World → Prop)) : St := fun A w => Mem F X w0 (fl A :: L) R w
/-- the worlds of a region: what stays in all of them -/
def Dm (F X : Nat → Prop) (w0 : World) (L : List Chunk) (R : List (World → Prop)) (w : World) : Prop := ∃ A, Mem F X w0 (fl A :: L) R w

section
variable {F X : Nat → Prop} {w0 w w' : World} {L : List Chunk} {R : List (World → Prop)} {A : Nat → Prop}

theorem fl_ok (h : ∀ b, A b → b < w.heap.size) : (fl A).Ok w := ⟨h, fun _ _ => trivial⟩

theorem MemA.alloc (M : MemA F X w0 L R A w) (o : Obj) : MemA F X w0 L R (fun x => x = w.heap.size ∨ A x) (w.alloc o) := by
  have M2 : Mem F X w0 (Tp.blk w.heap.size o :: fl A :: L) R (w.alloc o) := Mem.push M o
  refine ⟨M2.mod, ?_, ?_, ?_, ?_⟩
  · intro c hc
    rcases List.mem_cons.1 hc with rfl | hc
    · exact fl_ok fun b hb => hb.elim (fun e => by rw [e]; simp) fun hA => (M2.ok (fl A) (by simp)).lt b hA
    · exact M2.ok c (by simp [hc])
  · have h1 := List.pairwise_cons.1 M2.disj
    have h2 := List.pairwise_cons.1 h1.2
    refine List.pairwise_cons.2 ⟨fun d hd b hb => ?_, h2.2⟩
    rcases hb with hb | hb
    · exact h1.1 d (by simp [hd]) b hb
    · exact h2.1 d hd b hb
  · intro c hc b hb
    rcases List.mem_cons.1 hc with rfl | hc
    · rcases hb with hb | hb
      · exact M2.in_ (Tp.blk w.heap.size o) (by simp) b hb
      · exact M2.in_ (fl A) (by simp) b hb
    · exact M2.in_ c (by simp [hc]) b hb
  · intro r hr
    refine (M2.sh r hr).mono fun b hb _ => ⟨hb.1, fun c hc => ?_⟩
    rcases List.mem_cons.1 hc with rfl | hc
    · exact fun hf => hf.elim (hb.2 (Tp.blk w.heap.size o) (by simp)) (hb.2 (fl A) (by simp))
    · exact hb.2 c (by simp [hc])

theorem MemA.of_with {b : Nat} {o : Obj} (h : ((MemA F X w0 L R).with b o) A w) : MemA F X w0 (Tp.blk b o :: L) R A w := by
  obtain ⟨M, hb, hA⟩ := h
  refine ⟨M.mod, ?_, ?_, ?_, ?_⟩
  · intro c hc
    rcases List.mem_cons.1 hc with rfl | hc
    · exact fl_ok fun x hx => (M.ok _ (List.mem_cons_self ..)).lt x (.inr hx)
    · rcases List.mem_cons.1 hc with rfl | hc
      · exact blk_ok hb
      · exact M.ok c (by simp [hc])
  · have h1 := List.pairwise_cons.1 M.disj
    refine List.pairwise_cons.2 ⟨fun d hd x hx hx' => ?_, List.pairwise_cons.2 ⟨fun d hd x hx => h1.1 d hd x (.inl hx), h1.2⟩⟩
    rcases List.mem_cons.1 hd with rfl | hd
    · exact hA (by rw [← show x = b from hx']; exact hx)
    · exact h1.1 d hd x (.inr hx) hx'
  · intro c hc x hx
    rcases List.mem_cons.1 hc with rfl | hc
    · exact M.in_ _ (List.mem_cons_self ..) x (.inr hx)
    · rcases List.mem_cons.1 hc with rfl | hc
      · exact M.in_ _ (List.mem_cons_self ..) x (.inl hx)
      · exact M.in_ c (by simp [hc]) x hx
  · intro r hr
    refine (M.sh r hr).mono fun x hx _ => ⟨hx.1, fun c hc => ?_⟩
    rcases List.mem_cons.1 hc with rfl | hc
    · exact fun hf => hx.2 _ (List.mem_cons_self ..) (.inr hf)
    · rcases List.mem_cons.1 hc with rfl | hc
      · exact fun hf => hx.2 _ (List.mem_cons_self ..) (.inl hf)
      · exact hx.2 c (by simp [hc])

theorem MemA.to_with {b : Nat} {o : Obj} (M : MemA F X w0 (Tp.blk b o :: L) R A w) : ((MemA F X w0 L R).with b o) A w := by
  have hb : w.heap[b]? = some o := Mem.blk M 1 rfl
  refine ⟨⟨M.mod, ?_, ?_, ?_, ?_⟩, hb, fun hA => (List.pairwise_cons.1 M.disj).1 (Tp.blk b o) (List.mem_cons_self ..) b hA rfl⟩
  · intro c hc
    rcases List.mem_cons.1 hc with rfl | hc
    · exact fl_ok fun x hx => hx.elim (fun e => by rw [e]; exact lt_of_blk hb) fun hA => (M.ok (fl A) (by simp)).lt x hA
    · exact M.ok c (by simp [hc])
  · have h1 := List.pairwise_cons.1 M.disj
    have h2 := List.pairwise_cons.1 h1.2
    refine List.pairwise_cons.2 ⟨fun d hd x hx => ?_, h2.2⟩
    rcases hx with hx | hx
    · exact h2.1 d hd x hx
    · exact h1.1 d (by simp [hd]) x hx
  · intro c hc x hx
    rcases List.mem_cons.1 hc with rfl | hc
    · rcases hx with hx | hx
      · exact M.in_ (Tp.blk b o) (by simp) x hx
      · exact M.in_ (fl A) (by simp) x hx
    · exact M.in_ c (by simp [hc]) x hx
  · intro r hr
    refine (M.sh r hr).mono fun x hx _ => ⟨hx.1, fun c hc => ?_⟩
    rcases List.mem_cons.1 hc with rfl | hc
    · exact fun hf => hf.elim (hx.2 (Tp.blk b o) (by simp)) (hx.2 (fl A) (by simp))
    · exact hx.2 c (by simp [hc])
theorem good_mem {L' : List Chunk} {R' : List (World → Prop)} (hL : L'.Sublist L) (hR : ∀ r, r ∈ R' → r ∈ R) : Good (Dm F X w0 L' R') (MemA F X w0 L R) where
  d A _ M := ⟨A, Mem.sub M (hL.cons_cons _) hR⟩
  alloc _ _ o M := M.alloc o
  lt _ _ M := (Mem.chunk M 0 rfl).lt
theorem Good.and {D : World → Prop} {S : St} {p : Prop} (h : Good D S) : Good D fun A w => p ∧ S A w where
  d A w hs := h.d A w hs.2
  alloc A w o hs := ⟨hs.1, h.alloc A w o hs.2⟩
  lt A w hs := h.lt A w hs.2
theorem MemA.start (M : Mem F X w0 L R w) : MemA F X w0 L R (fun _ => False) w.drew :=
  M.tick.own (Mod.refl _ _) (fl_ok fun _ h => h.elim) fun _ h => h.elim
theorem MemA.stop (M : MemA F X w0 L R A w) : Mem F X w0 L R w := Mem.sub M (List.sublist_cons_self ..) fun _ h => h
theorem MemA.keep (M : MemA F X w0 L R A w) (h : Old w w') : ∀ b, A b → w'.heap[b]? = w.heap[b]? := fun b hb => h.block b ((Mem.chunk M 0 rfl).lt b hb) id
end

section
variable {P : Program} {ops : Array Oper} {ld mk : List Nat} {D : World → Prop} {Q : Env → World → Prop} {i : Nat} {d : Option Nat} {op : Op} {ty : TypeId} {pos : String} {aft : Array Edge} {g : Option (Nat × Bool)}
  {rest : List Nat} {ρ : Env} {S : St}
theorem TW.step {v : Value} (hi : ops[i]? = some ⟨d, op, ty, pos, aft, g⟩) (hl : i ∉ ld) (hm : i ∉ mk) (hw : ρ.want ops g = true)
    (h : ∀ w, D w → Step P op ty ρ w v w) (k : TW P ops ld mk D Q rest (ρ.put d v) S) : TW P ops ld mk D Q (i :: rest) ρ S := .steady hi hl hm hw h k
theorem TW.skip (hi : ops[i]? = some ⟨d, op, ty, pos, aft, g⟩) (hw : ρ.want ops g = false) (k : TW P ops ld mk D Q rest (ρ.put d undef) S) : TW P ops ld mk D Q (i :: rest) ρ S := .pass hi hw k
theorem TW.does (S' : Value → St) (hi : ops[i]? = some ⟨d, op, ty, pos, aft, g⟩) (hl : i ∈ ld) (hw : ρ.want ops g = true) (hg : ∀ v, Good D (S' v))
    (h : ∀ A w, S A w → Does P ⟨d, op, ty, pos, aft, g⟩ ρ w fun v w' => S' v A w' ∧ ∀ b, A b → w'.heap[b]? = w.heap[b]?)
    (k : ∀ v, (∃ A w, S' v A w) → TW P ops ld mk D Q rest (ρ.put d v) (S' v)) (hm : i ∉ mk := by decide) : TW P ops ld mk D Q (i :: rest) ρ S := .loud (hm := hm) S' hi hl hw hg h k
theorem Does.call {w : World} {f : FuncId} {args : Array Value} {R : Value → World → Prop} (hc : CallsF P op ty ρ w f args) (h : Rets P f args w R) : Does P ⟨d, op, ty, pos, aft, g⟩ ρ w R := Does.call' hc h
theorem Does.step {w w' : World} {v : Value} {R : Value → World → Prop} (h : Step P op ty ρ w v w') (hR : R v w') : Does P ⟨d, op, ty, pos, aft, g⟩ ρ w R := .inl ⟨v, w', h, hR⟩
end

theorem Step.cast {P : Program} {op : Op} {ty : TypeId} {ρ : Env} {w w' : World} {v v' : Value} (e : v = v') (h : Step P op ty ρ w v w') : Step P op ty ρ w v' w' := e ▸ h
def cellB : Value → Bool
  | .agg _ | .tuple _ => false
  | _ => true
theorem cel_nil : Step.Cellish [] := fun _ h => (by cases h)
theorem cel_cons {v : Value} {l : List Value} (h : cellB v = true) (t : Step.Cellish l) : Step.Cellish (v :: l) := by
  intro u hu
  rcases List.mem_cons.1 hu with rfl | hu
  · exact ⟨fun cs e => (by rw [e] at h; cases h), fun vs e => (by rw [e] at h; cases h)⟩
  · exact t u hu
theorem Step.Cellish.one {l : List Value} (h : Step.Cellish l) : ∀ u, u ∈ l → u.oneCell' = true := by
  intro u hu
  have := h u hu
  cases u <;> first | rfl | (exact absurd rfl (this.1 _)) | (exact absurd rfl (this.2 _))
def IsSl (v : Value) : Prop := ∃ a n c, v = .slice a n c
theorem IsSl.cells {v : Value} (h : IsSl v) : v.cells = #[v] := by obtain ⟨a, n, c, rfl⟩ := h; rfl
theorem IsSl.list {v : Value} (h : IsSl v) : v.cells.toList = [v] := by rw [h.cells]
theorem IsSl.cel {v : Value} (h : IsSl v) : cellB v = true := by obtain ⟨a, n, c, rfl⟩ := h; rfl
theorem SlAt.isSl {size n : Nat} {v : Value} {cs : List Value} {w : World} (h : SlAt size v n cs w) : IsSl v := by
  obtain ⟨a, cap, rfl⟩ := h.value; exact ⟨_, _, _, rfl⟩
theorem RepS.isSl {α : Type} {T : Ty α} {v : Value} {xs : List α} {w : World} (h : RepS T v xs w) : IsSl v := let ⟨_, h, _⟩ := h; h.isSl
theorem SlAt.cel {size n : Nat} {v : Value} {cs : List Value} {w : World} (h : SlAt size v n cs w) : cellB v = true := by
  obtain ⟨a, cap, rfl⟩ := h.value; rfl
theorem flat_ec {α : Type} {size : Nat} {enc : α → List Value} {xs : List α} {v : Value} {w : World} {i : Nat} {x : α} (h : SlAt size v xs.length (xs.flatMap enc) w) (hx : xs[i]? = some x) (he : ∀ x, (enc x).length = size) :
    EC v size i (enc x) w := by
  obtain ⟨cs, h1, h2⟩ := RepS.elem (T := Ty.flat size enc he) (RepS.flat.2 h) hx
  have : cs = enc x := h1
  rw [this] at h2
  exact h2

/-! ## Rules for memory, in the text's order -/
namespace Mem
variable {F X : Nat → Prop} {w0 w w' : World} {L : List Chunk} {R : List (World → Prop)}
theorem nil (w : World) : Mem F X w [] [] w := Mem.start w fun _ h => (by cases h)
/-- what a call brings on shared blocks and new ones is shared -/
theorem up (M : Mem F X w0 L R w) (h : Old w w') {r : World → Prop} (hr : Sh (fun b => ((F b ∨ w0.heap.size ≤ b) ∧ avoid L b) ∨ w.heap.size ≤ b) r w') : Sh (fun b => (F b ∨ w0.heap.size ≤ b) ∧ avoid L b) r w' :=
  hr.mono fun b hb _ => hb.elim id fun hge => ⟨.inr (Nat.le_trans M.mod.size hge), fun c hc hf => by have := (M.ok c hc).lt b hf; omega⟩
theorem zero {i : Nat} {X : Nat → Prop} (M : Mem F X w0 L R w) {c : Chunk} (h : L[i]? = some c) (hX : ∀ b, ¬ X b) : ∀ b, c.foot b → F b ∨ w0.heap.size ≤ b := fun b hb => .inr ((M.in_ c (List.mem_of_getElem? h) b hb).resolve_left (hX b))
end Mem

section
variable {P : Program} {n : Nat} {Q : Exit → Env → World → Prop} {ρ : Env} {w w0 : World} {ops : Array Oper} {rest : List Oper} {F X : Nat → Prop} {L L' : List Chunk} {R : List (World → Prop)}
variable {d : Option Nat} {op : Op} {ty : TypeId} {pos : String} {aft : Array Edge} {g : Option (Nat × Bool)}

theorem WL.alloc {t : TypeId} {z : Value} {c : Array Value} (M : Mem F X w0 L R w) (hg : ρ.want ops g = true) (hz : ∀ w, (zeroValue t).run P w = .ok z w) (hc : z.cells = c)
    (k : ∀ b w', w0.heap.size ≤ b → Mem F X w0 (blk b (.cells c t) :: L) R w' → WL P n ops rest Q (ρ.put d (.pointer (some ⟨b, 0, none⟩))) w') : WL P n ops (⟨d, .alloc t, ty, pos, aft, g⟩ :: rest) Q ρ w := by
  subst hc
  exact WL.step hg (Step.alloc hz) (k _ _ M.mod.size (M.push _))
theorem WL.box {t : TypeId} {x : Operand} {v : Value} {c : Array Value} (M : Mem F X w0 L R w) (hg : ρ.want ops g = true) (hx : ρ.ev x = v) (hc : v.cells = c)
    (k : ∀ b w', w0.heap.size ≤ b → Mem F X w0 (blk b (.cells c t) :: L) R w' → WL P n ops rest Q (ρ.put d (.pointer (some ⟨b, 0, none⟩))) w') : WL P n ops (⟨d, .box t x, ty, pos, aft, g⟩ :: rest) Q ρ w := by
  subst hc
  exact WL.step hg (Step.box hx) (k _ _ M.mod.size (M.push _))
theorem WL.store {t : TypeId} {x y : Operand} {b o k : Nat} {c c' : Array Value} {e : TypeId} {v : Value} {cs : List Value} (M : Mem F X w0 L R w) (i : Nat) (hi : L[i]? = some (blk b (.cells c e))) (hg : ρ.want ops g = true)
    (ht : Sized P t k) (ha : ρ.ev x = .pointer (some ⟨b, o, none⟩)) (hv : ρ.ev y = v) (hcs : v.cells.toList = cs) (hk : cs.length = k) (hs : o + k ≤ c.size) (hl : Step.Cellish cs) (hc : Step.put c o cs = c')
    (hL : L.set i (blk b (.cells c' e)) = L') (kk : ∀ w', Mem F X w0 L' R w' → WL P n ops rest Q (ρ.put d undef) w') : WL P n ops (⟨d, .store t x y, ty, pos, aft, g⟩ :: rest) Q ρ w := by
  subst hL
  subst hcs
  exact WL.step hg (Step.store ht ha hv (by rw [← hk, Array.length_toList]) (M.blk i hi) hs hl hc) (kk _ (M.setBlk i _ hi))
theorem WL.new {obj : Obj} (gv : Nat → Value) (M : Mem F X w0 L R w) (hg : ρ.want ops g = true) (h : ∀ w, Step P op ty ρ w (gv w.heap.size) (w.alloc obj))
    (k : ∀ b w', w0.heap.size ≤ b → Mem F X w0 (blk b obj :: L) R w' → WL P n ops rest Q (ρ.put d (gv b)) w') : WL P n ops (⟨d, op, ty, pos, aft, g⟩ :: rest) Q ρ w :=
  WL.step hg (h w) (k _ _ M.mod.size (M.push _))
end

section
variable {P : Program} {ops : Array Oper} {ld mk : List Nat} {Q : Env → World → Prop} {i : Nat} {d : Option Nat} {op : Op} {ty : TypeId} {pos : String} {aft : Array Edge} {g : Option (Nat × Bool)}
  {rest : List Nat} {ρ : Env} {F X : Nat → Prop} {w0 : World} {Lp L L' : List Chunk} {Rp R : List (World → Prop)}
/-- In a region whose order is drawn: an operation that neither turns nor makes memory. -/
theorem TW.pure {v : Value} {S : St} {D : World → Prop} (hi : ops[i]? = some ⟨d, op, ty, pos, aft, g⟩) (hl : i ∉ ld) (hm : i ∉ mk) (hw : ρ.want ops g = true)
    (h : ∀ w, Step P op ty ρ w v w) (k : TW P ops ld mk D Q rest (ρ.put d v) S) : TW P ops ld mk D Q (i :: rest) ρ S := .steady hi hl hm hw (fun w _ => h w) k
theorem TW.read {v : Value} {S : St} (hi : ops[i]? = some ⟨d, op, ty, pos, aft, g⟩) (hl : i ∉ ld) (hm : i ∉ mk) (hw : ρ.want ops g = true)
    (h : ∀ A w, Mem F X w0 (fl A :: Lp) Rp w → Step P op ty ρ w v w) (k : TW P ops ld mk (Dm F X w0 Lp Rp) Q rest (ρ.put d v) S) : TW P ops ld mk (Dm F X w0 Lp Rp) Q (i :: rest) ρ S :=
  .steady hi hl hm hw (fun w ⟨A, M⟩ => h A w M) k
/-- a new block -/
theorem TW.new {obj : Obj} {D : World → Prop} (gv : Nat → Value) (hi : ops[i]? = some ⟨d, op, ty, pos, aft, g⟩) (hl : i ∉ ld) (hm : i ∈ mk) (hw : ρ.want ops g = true)
    (h : ∀ w, Step P op ty ρ w (gv w.heap.size) (w.alloc obj))
    (k : ∀ b, TW P ops ld mk D Q rest (ρ.put d (gv b)) (MemA F X w0 (blk b obj :: L) R)) : TW P ops ld mk D Q (i :: rest) ρ (MemA F X w0 L R) :=
  .maker gv obj hi hl hm hw (fun w _ => h w) fun b _ => (k b).weaken (fun _ _ hs => MemA.of_with hs) fun _ _ _ _ h _ => MemA.to_with h
/-- a store into a block of one's own -/
theorem TW.store {t : TypeId} {x y : Operand} {b o k : Nat} {c c' : Array Value} {e : TypeId} {v : Value} {cs : List Value} (j : Nat) (hj : L[j]? = some (blk b (.cells c e)))
    (hi : ops[i]? = some ⟨d, .store t x y, ty, pos, aft, g⟩) (hl : i ∈ ld) (hw : ρ.want ops g = true) (ht : Sized P t k) (ha : ρ.ev x = .pointer (some ⟨b, o, none⟩)) (hv : ρ.ev y = v) (hcs : v.cells.toList = cs) (hk : cs.length = k) (hs : o + k ≤ c.size)
    (hcl : Step.Cellish cs) (hc : Step.put c o cs = c') (hL' : L.set j (blk b (.cells c' e)) = L') (hLp : Lp.Sublist L') (hRp : ∀ r, r ∈ Rp → r ∈ R)
    (kk : TW P ops ld mk (Dm F X w0 Lp Rp) Q rest (ρ.put d undef) (MemA F X w0 L' R)) (hm : i ∉ mk := by decide) : TW P ops ld mk (Dm F X w0 Lp Rp) Q (i :: rest) ρ (MemA F X w0 L R) := by
  subst hcs
  refine .loud (hm := hm) (fun v A w => v = undef ∧ MemA F X w0 L' R A w) hi hl hw (fun v => (good_mem hLp hRp).and) (fun A w M => ?_) ?_
  · have hb : w.heap[b]? = some (.cells c e) := Mem.blk M (j + 1) (by simpa using hj)
    refine .inl ⟨undef, _, Step.store ht ha hv (by rw [← hk, Array.length_toList]) hb hs hcl hc, ⟨rfl, ?_⟩, fun b' hb' => ?_⟩
    · have := Mem.setBlk M (j + 1) (o := .cells c e) (.cells c' e) (by simpa using hj)
      rw [List.set_cons_succ, hL'] at this
      exact this
    · refine (blkSet_mod w b _).block b' ((Mem.chunk M 0 rfl).lt b' hb') fun e => ?_
      subst e
      exact Mem.disj_ne M (i := 0) (j := j + 1) rfl (d := blk b' (.cells c _)) (by simpa using hj) (by omega) b' hb' rfl
  · rintro v ⟨_, _, rfl, _⟩
    exact kk.weaken (fun _ _ hs => hs.2) fun _ _ _ h1 h2 _ => ⟨h1.1, h2⟩
theorem TW.done {D : World → Prop} (h : ∀ w, Mem F X w0 L R w → Q ρ w) : TW P ops ld mk D Q [] ρ (MemA F X w0 L R) := .nil fun _ _ M => h _ (MemA.stop M)
/-- a region whose order is drawn, over the memory -/
theorem W.drawn {n id : Nat} {l : List Oper} {Q : Exit → Env → World → Prop} {w : World} (M : Mem F X w0 L R w) (ord ld mk : List Nat) (Lp : List Chunk) (Rp : List (World → Prop)) (hL : Lp.Sublist L) (hR : ∀ r, r ∈ Rp → r ∈ R)
    (hm : P.follows .mixedOrders = true) (hB : anyB n l.toArray ld mk ord = true) (h : TW P l.toArray ld mk (Dm F X w0 Lp Rp) (Q .normal) ord ρ (MemA F X w0 L R)) : W P n (.region id l.toArray true) Q ρ w :=
  W.region_any ord ld mk _ _ hm hB (good_mem hL hR) (MemA.start M) h
end

/-! ## Slots that are known at a loop's head -/
def Env.overF (l : List (Nat × Value)) (f : Nat → Value) : Nat → Value := fun t => match l with
  | [] => f t
  | p :: l => if t = p.1 then p.2 else Env.overF l f t
/-- the slots that are known; no mark, no round -/
def Env.over (l : List (Nat × Value)) (ρ : Env) : Env := ⟨Env.overF l ρ.f, [], none⟩
theorem Env.overF_know : ∀ (l : List (Nat × Value)) (f : Nat → Value), (∀ p, p ∈ l → f p.1 = p.2) → f = Env.overF l f
  | [], f, _ => by funext t; simp [Env.overF]
  | p :: l, f, h => by
    funext t
    have ih := Env.overF_know l f fun q hq => h q (by simp [hq])
    simp only [Env.overF]
    by_cases e : t = p.1
    · rw [if_pos e, e]; exact h p (by simp)
    · rw [if_neg e]; exact congrFun ih t
/-- all of these hold of their slots; nothing is put off -/
def Env.has (ρ : Env) : List (Nat × Value) → Prop
  | [] => ρ.ds = [] ∧ ρ.rd = none
  | p :: l => ρ.f p.1 = p.2 ∧ ρ.has l
theorem Env.has.all {l : List (Nat × Value)} {ρ : Env} (h : ρ.has l) : (∀ p, p ∈ l → ρ.f p.1 = p.2) ∧ ρ.ds = [] ∧ ρ.rd = none := by
  induction l with
  | nil => exact ⟨fun p hp => (by cases hp), h⟩
  | cons q l ih =>
    obtain ⟨h1, h2⟩ := ih h.2
    refine ⟨fun p hp => ?_, h2⟩
    rcases List.mem_cons.1 hp with rfl | hp
    · exact h.1
    · exact h1 p hp
theorem Env.has.know : ∀ {l : List (Nat × Value)} {ρ : Env}, ρ.has l → ∃ ρ', ρ = Env.over l ρ' := fun {l ρ} h => ⟨ρ, by
  obtain ⟨h1, h2, h3⟩ := h.all
  have := Env.overF_know l ρ.f h1
  cases ρ
  simp only at h2 h3 this
  subst h2; subst h3
  simp only [Env.over, Env.mk.injEq, and_true]
  exact this⟩

theorem inBlk_hit {id : Nat} {Q : Exit → Env → World → Prop} {ρ : Env} {w : World} (h : Q .normal ρ w) : inBlk id Q (.exit id) ρ w := by simp only [inBlk, if_pos]; exact h
end Tp

namespace Tp
open Go

/-! ## Equality of structs -/
section
variable {P : Program} {d : Nat} {xs ys : Array Value}
theorem eqF_nil : ∀ w, (Op.eqFields d xs ys []).run P w = .ok true w := fun w => by simp [Op.eqFields]
theorem eqF_cons {f : Field} {fs : List Field} {x y : Value} {c r : Bool} (hn : f.name ≠ "_") (hx : ∀ w, (part f.type xs f.offset).run P w = .ok x w) (hy : ∀ w, (part f.type ys f.offset).run P w = .ok y w)
    (he : ∀ w, (Op.equalIn d f.type x y).run P w = .ok c w) (hr : ∀ w, (Op.eqFields d xs ys fs).run P w = .ok r w) : ∀ w, (Op.eqFields d xs ys (f :: fs)).run P w = .ok (c && r) w := by
  intro w
  simp only [Op.eqFields, ne_eq, hn, not_false_eq_true, if_true, Sem.run_bind, hx w, hy w, he w, Result.andThen_ok]
  cases c
  · simp
  · simp only [Bool.not_true, Bool.false_eq_true, if_false, Bool.true_and]; exact hr w
theorem eq_struct {t : TypeId} {fs : List Field} {b : Bool} (ht : P.underlying t = some (.struct (P.fieldsOf t))) (hp : P.stoodInHeld t = false) (hf : (P.fieldsOf t).toList = fs)
    (h : ∀ w, (Op.eqFields d xs ys fs).run P w = .ok b w) : ∀ w, (Op.equalIn (d + 1) t (.agg xs) (.agg ys)).run P w = .ok b w := fun w => by
  rw [run_equalIn_struct w d t xs ys ht hp, hf]; exact h w
theorem Step.eqAgg {ρ : Env} {w : World} {ty t t' : TypeId} {x y : Operand} {b : Bool} (hm : P.eqGuardType P.depth t = false) (hx : ρ.ev x = .agg xs) (hy : ρ.ev y = .agg ys) {d : Nat} (hd : d = 10000)
    (h : ∀ w, (Op.equalIn d t (.agg xs) (.agg ys)).run P w = .ok b w) : Step P (.binOp .eql t x y t') ty ρ w (.bool b) w := by
  subst hd
  intro d pos aft g
  left
  simp [execOp, hx, hy, run_eqGuard_agg w .eql t x y xs ys hm, run_eql_struct w t xs ys, h w]
theorem Step.neqAgg {ρ : Env} {w : World} {ty t t' : TypeId} {x y : Operand} {b : Bool} (hm : P.eqGuardType P.depth t = false) (hx : ρ.ev x = .agg xs) (hy : ρ.ev y = .agg ys) {d : Nat} (hd : d = 10000)
    (h : ∀ w, (Op.equalIn d t (.agg xs) (.agg ys)).run P w = .ok b w) : Step P (.binOp .neq t x y t') ty ρ w (.bool (!b)) w := by
  subst hd
  intro d pos aft g
  left
  simp [execOp, hx, hy, run_eqGuard_agg w .neq t x y xs ys hm, run_neq_struct w t xs ys, h w]
end

/-! ## nil or not -/
theorem Step.eqSl {P : Program} {ρ : Env} {w : World} {ty t t' e : TypeId} {x y : Operand} {v : Value} {a : Option Addr} {n cap : Nat} (ht : Und P t (.slice e)) (hx : ρ.ev x = v) (hv : v = .slice a n cap) (hy : ρ.ev y = .slice none 0 0) :
    Step P (.binOp .eql t x y t') ty ρ w (.bool a.isNone) w := by
  intro d pos aft g
  left
  subst hv
  have h1 : (eqGuard .eql t x y (.slice a n cap) (.slice none 0 0)).run P w = .ok () w := by simp [eqGuard]
  have h2 := Lib.run_eql_slice_nil (P := P) w t e a n cap 0 0 ht
  simp only [execOp, hx, hy, Sem.run_bind, h1, Result.andThen_ok, h2, Sem.run_pure]
theorem Step.eqNil {P : Program} {ρ : Env} {w : World} {ty t t' e : TypeId} {x y : Operand} {v : Value} (ht : Und P t (.slice e)) (hx : ρ.ev x = v) (hv : v = .slice none 0 0) (hy : ρ.ev y = .slice none 0 0) : Step P (.binOp .eql t x y t') ty ρ w (.bool true) w :=
  Step.eqSl ht hx hv hy
theorem Step.eqSome {P : Program} {ρ : Env} {w : World} {ty t t' e : TypeId} {x y : Operand} {v : Value} {a : Addr} {n cap : Nat} (ht : Und P t (.slice e)) (hx : ρ.ev x = v) (hv : v = .slice (some a) n cap) (hy : ρ.ev y = .slice none 0 0) : Step P (.binOp .eql t x y t') ty ρ w (.bool false) w :=
  Step.eqSl ht hx hv hy
theorem SlAt.cases {size n : Nat} {v : Value} {cs : List Value} {w : World} (h : SlAt size v n cs w) : (v = .slice none 0 0 ∧ n = 0) ∨ ∃ a cap, v = .slice (some a) n cap := by
  rcases h with ⟨⟨a, h1⟩, h2, _⟩ | ⟨b, o, cap, _, _, _, h, _⟩
  · cases a with
    | none => exact .inl ⟨h1, h2⟩
    | some a => exact .inr ⟨a, 0, by rw [h1, h2]⟩
  · exact .inr ⟨_, cap, h⟩

/-! ## Facts handed to a call, and out of it -/
namespace Mem
variable {F X : Nat → Prop} {w0 w w' : World} {L : List Chunk} {R : List (World → Prop)}
theorem out (M : Mem F X w0 L R w) (i : Nat) {r : World → Prop} (h : R[i]? = some r) : Sh (fun b => F b ∨ w0.heap.size ≤ b) r w := (M.shr i h).mono fun _ hb _ => hb.1
/-- a block that was just made becomes a slice of one's own -/
theorem ownBlk (M : Mem F X w0 L R w) (i : Nat) {b n size : Nat} {c : Array Value} {e : TypeId} (h : L[i]? = some (Tp.blk b (.cells c e))) (hs : c.size = n * size) (hn : n ≤ maxLen) :
    Mem F X w0 (L.set i (Tp.own e size (.slice (some ⟨b, 0, none⟩) n n) n c.toList)) R w := by
  have hb := M.blk i h
  refine M.turn i h (Mod.refl _ _) (own_ok ⟨by simpa using hs, .inr ⟨b, n, c, rfl, Nat.zero_le _, hb, Nat.le_refl _, hn, hs, ?_⟩⟩) fun b' hb' => .inl ?_
  · rw [← hs, ← Array.length_toList, List.take_length]
  · simp only [Tp.own, Value.ownBlock, Option.some.injEq] at hb'; exact hb'.symm
theorem freezeN (M : Mem F (fun _ => False) w0 L R w) (i : Nat) {c : Chunk} (hi : L[i]? = some c) : Mem F (fun _ => False) w0 (L.eraseIdx i) (c.inv :: R) w :=
  M.freeze i hi (M.zero hi fun _ => id)
/-- a slice of one's own is given up -/
theorem shareOwn (M : Mem F (fun _ => False) w0 L R w) (i : Nat) {e : TypeId} {size n : Nat} {v : Value} {cs : List Value} (hi : L[i]? = some (Tp.own e size v n cs)) : Mem F (fun _ => False) w0 (L.eraseIdx i) (SlAt size v n cs :: R) w := by
  have M1 := M.freezeN i hi
  exact M1.facts fun r hr => by
    rcases List.mem_cons.1 hr with rfl | hr
    · exact (M1.sh _ (List.mem_cons_self ..)).imp fun _ h => own_slAt h
    · exact M1.sh r (List.mem_cons_of_mem _ hr)
theorem shareBlk (M : Mem F (fun _ => False) w0 L R w) (i : Nat) {b n size : Nat} {c : Array Value} {e : TypeId} (hi : L[i]? = some (Tp.blk b (.cells c e))) (hs : c.size = n * size) (hn : n ≤ maxLen) :
    Mem F (fun _ => False) w0 (L.eraseIdx i) (SlAt size (.slice (some ⟨b, 0, none⟩) n n) n c.toList :: R) w := by
  have M1 := M.freezeN i hi
  exact M1.facts fun r hr => by
    rcases List.mem_cons.1 hr with rfl | hr
    · exact (M1.sh _ (List.mem_cons_self ..)).imp fun _ h => SlAt.of_blk h hs hn
    · exact M1.sh r (List.mem_cons_of_mem _ hr)
end Mem

/-- a slice of elements whose cells are not known from outside: its cells -/
theorem reps_cells {α : Type} {T : Ty α} {F : Nat → Prop} {v : Value} {xs : List α} {w : World} (h : Sh F (RepS T v xs) w) :
    ∃ cs, Sh F (SlAt T.size v xs.length cs) w ∧ Sh F (RepL T cs xs) w := by
  obtain ⟨G, h1, h2, h3⟩ := h
  obtain ⟨cs, hs, hl⟩ := h3 w fun _ _ => rfl
  have same : ∀ w', (∀ b, G b → w'.heap[b]? = w.heap[b]?) → SlAt T.size v xs.length cs w' ∧ RepL T cs xs w' := by
    intro w' hw
    obtain ⟨cs', hs', hl'⟩ := h3 w' hw
    have : cs' = cs := by
      by_cases hx0 : xs.length = 0
      · have e1 := hl.1; have e2 := hl'.1
        rw [hx0, Nat.zero_mul] at e1 e2
        rw [List.eq_nil_of_length_eq_zero e1, List.eq_nil_of_length_eq_zero e2]
      rcases hs with ⟨_, hn, hc⟩ | ⟨b, o, cap, c, e, fz, hv, h5, h6, hb, h7, h8, h9⟩
      · have := hl'.1; rw [hn] at this; simp at this; rw [this, hc]
      · -- the block is one of those that the fact is on
        have hG : G b := by
          apply Classical.byContradiction
          intro hn
          obtain ⟨cs2, hs2, _⟩ := h3 (World.blkSet w b (.map #[] 0)) fun b' hb' => (blkSet_mod w b _).block b' (h2 b' hb') fun e => hn (e ▸ hb')
          rcases hs2 with ⟨_, hn2, _⟩ | ⟨b2, o2, cap2, c2, e2, fz2, hv2, _, _, hb2, _⟩
          · exact absurd hn2 hx0
          · rw [hv] at hv2
            simp only [Value.slice.injEq, Option.some.injEq, Addr.mk.injEq] at hv2
            obtain ⟨⟨rfl, _⟩, _⟩ := hv2
            rw [blkSet_at _ (lt_of_blk hb)] at hb2
            cases hb2
        rcases hs' with ⟨_, hn2, _⟩ | ⟨b2, o2, cap2, c2, e2, fz2, hv2, _, _, hb2, _, k8, k9⟩
        · exact absurd hn2 hx0
        · rw [hv] at hv2
          simp only [Value.slice.injEq, Option.some.injEq, Addr.mk.injEq] at hv2
          obtain ⟨⟨rfl, rfl, _⟩, _, _⟩ := hv2
          rw [hw b hG, hb] at hb2
          simp only [Option.some.injEq, Obj.cells.injEq] at hb2
          obtain ⟨rfl, _, _⟩ := hb2
          apply List.ext_getElem?
          intro j
          rcases Nat.lt_or_ge j (xs.length * T.size) with hj | hj
          · rw [← k9 j hj, ← h9 j hj]
          · rw [List.getElem?_eq_none (by omega), List.getElem?_eq_none (by omega)]
    subst this
    exact ⟨hs', hl'⟩
  exact ⟨cs, ⟨G, h1, h2, fun w' hw => (same w' hw).1⟩, ⟨G, h1, h2, fun w' hw => (same w' hw).2⟩⟩
theorem Mem.openS {α : Type} {T : Ty α} {F X : Nat → Prop} {w0 w : World} {L : List Chunk} {R : List (World → Prop)} {v : Value} {xs : List α} (M : Mem F X w0 L R w) (i : Nat) (h : R[i]? = some (RepS T v xs)) :
    ∃ cs, Mem F X w0 L (SlAt T.size v xs.length cs :: RepL T cs xs :: R) w := by
  obtain ⟨cs, h1, h2⟩ := reps_cells (M.shr i h)
  exact ⟨cs, (M.add h2).add h1⟩
end Tp

namespace Tp
open Go
/-- a part of a struct or of a tuple -/
def vGet : Value → Nat → Value
  | .agg cs, i => cs.getD i undef
  | .tuple vs, i => vs.getD i undef
  | v, _ => v
end Tp

namespace Tp
open Go
theorem cel_flatMap {α : Type} {enc : α → List Value} (h : ∀ x, Step.Cellish (enc x)) (xs : List α) : Step.Cellish (xs.flatMap enc) := by
  intro v hv
  obtain ⟨x, _, hx⟩ := List.mem_flatMap.1 hv
  exact h x v hx
/-- append, elements of a flat type -/
theorem Mem.appendF {α : Type} {enc : α → List Value} {P : Program} {F X : Nat → Prop} {w0 w : World} {L : List Chunk} {R : List (World → Prop)} {ρ : Env} {d : Option Nat} {pos : String} {aft : Array Edge} {g : Option (Nat × Bool)} {t ty e : TypeId} {z : Value} {size bytes : Nat} {x y : Operand}
    {v sv : Value} (xs ys : List α) (M : Mem F X w0 L R w) (i : Nat) (ht : Und P t (.slice e)) (he : Elem P e z size bytes) (hzs : z.cells.size = size) (hsz : 0 < size)
    (hx : ρ.ev x = v) (hy : ρ.ev y = sv) (hi : L[i]? = some (Tp.own e size v xs.length (xs.flatMap enc))) (hsrc : SlAt size sv ys.length (ys.flatMap enc) w) (h1 : ∀ x, Step.Cellish (enc x))
    (h63 : xs.length + ys.length ≤ maxLen) (hb : (xs.length + ys.length) * bytes ≤ 140737488355328) :
    Does P ⟨d, .call { callee := .builtin .append, args := #[x, y], argTypes := #[t, t] }, ty, pos, aft, g⟩ ρ w fun v' w' =>
      Mem F X w0 (L.set i (Tp.own e size v' (xs ++ ys).length ((xs ++ ys).flatMap enc))) R w' := by
  refine (M.append i ht he hzs hsz hx hy hi hsrc (cel_flatMap h1 ys).one h63 hb).mono fun v' w' ⟨_, _, M'⟩ => ?_
  rw [List.length_append, List.flatMap_append]
  exact M'
end Tp

namespace Tp
open Go
theorem thn_exit {K : Env → World → Prop} {Q : Exit → Env → World → Prop} {id : Nat} {ρ : Env} {w : World} (h : Q (.exit id) ρ w) : thn K Q (.exit id) ρ w := h
theorem SlAt.le' {size n : Nat} {v : Value} {cs : List Value} {w : World} (h : SlAt size v n cs w) : n ≤ 9223372036854775807 := h.le
theorem RepS.le' {α : Type} {T : Ty α} {v : Value} {xs : List α} {w : World} (h : RepS T v xs w) : xs.length ≤ 9223372036854775807 := h.le
end Tp
