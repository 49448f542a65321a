/- A region whose order is drawn: walked in one order, it is walked in all. -/
import Derived.Test.YthihknbbibgchaaTrStep
namespace Tp
open Go

/-- What an operation does in a world. -/
def Does (P : Program) (o : Oper) (ρ : Env) (w : World) (R : Value → World → Prop) : Prop :=
  (∃ v w', Step P o.op o.type ρ w v w' ∧ R v w') ∨ ∃ nx, nxCall nx = true ∧ CallsN P o.op o.type ρ w nx ∧ Leads P nx w R
theorem Does.call' {P : Program} {d : Option Nat} {op : Op} {ty : TypeId} {pos : String} {aft : Array Edge} {g : Option (Nat × Bool)} {ρ : Env} {w : World} {f : FuncId} {args : Array Value} {R : Value → World → Prop} (hc : CallsF P op ty ρ w f args) (h : Rets P f args w R) : Does P ⟨d, op, ty, pos, aft, g⟩ ρ w R :=
  .inr ⟨_, rfl, hc, h.leads⟩

/-- what holds of the blocks that floating operations have made, and of the world -/
abbrev St := (Nat → Prop) → World → Prop
def St.with (S : St) (b : Nat) (obj : Obj) : St := fun A w => S (fun x => x = b ∨ A x) w ∧ w.heap[b]? = some obj ∧ ¬ A b
structure Good (D : World → Prop) (S : St) : Prop where
  d : ∀ A w, S A w → D w
  alloc : ∀ A w obj, S A w → S (fun x => x = w.heap.size ∨ A x) (w.alloc obj)
  lt : ∀ A w, S A w → ∀ b, A b → b < w.heap.size
theorem or_left_swap (A : Nat → Prop) (b c : Nat) : (fun x => x = b ∨ x = c ∨ A x) = fun x => x = c ∨ x = b ∨ A x := by
  funext x
  exact propext ⟨fun h => h.elim (fun h => .inr (.inl h)) fun h => h.elim .inl fun h => .inr (.inr h), fun h => h.elim (fun h => .inr (.inl h)) fun h => h.elim .inl fun h => .inr (.inr h)⟩
theorem Good.with {D : World → Prop} {S : St} (h : Good D S) (b : Nat) (obj : Obj) : Good D (S.with b obj) where
  d _ _ hs := h.d _ _ hs.1
  alloc A w o hs := by
    obtain ⟨h1, h2, h3⟩ := hs
    have hb := lt_of_blk h2
    refine ⟨?_, ?_, ?_⟩
    · have := h.alloc _ w o h1
      rwa [or_left_swap] at this
    · rw [heap_alloc_old w o hb]; exact h2
    · rintro (e | e)
      · omega
      · exact h3 e
  lt A w hs b' hb' := h.lt _ _ hs.1 b' (.inr hb')

theorem St.with_swap {S : St} {b c : Nat} {o o' : Obj} {A : Nat → Prop} {w : World} (h : ((S.with c o').with b o) A w) : ((S.with b o).with c o') A w := by
  obtain ⟨⟨h1, h2, h3⟩, h4, h5⟩ := h
  refine ⟨⟨by rwa [or_left_swap] at h1, h4, fun e => e.elim (fun e => h3 (.inl e.symm)) h5⟩, h2, fun hc => h3 (.inr hc)⟩

inductive TW (P : Program) (ops : Array Oper) (ld mk : List Nat) (D : World → Prop) (Q : Env → World → Prop) : List Nat → Env → St → Prop
  | nil {ρ : Env} {S : St} (h : ∀ A w, S A w → Q ρ w) : TW P ops ld mk D Q [] ρ S
  | steady {i : Nat} {o : Oper} {v : Value} {rest : List Nat} {ρ : Env} {S : St} (hi : ops[i]? = some o) (hl : i ∉ ld) (hm : i ∉ mk) (hw : ρ.want ops o.guard = true)
      (h : ∀ w, D w → Step P o.op o.type ρ w v w) (k : TW P ops ld mk D Q rest (ρ.put o.dst v) S) : TW P ops ld mk D Q (i :: rest) ρ S
  | pass {i : Nat} {o : Oper} {rest : List Nat} {ρ : Env} {S : St} (hi : ops[i]? = some o) (hw : ρ.want ops o.guard = false)
      (k : TW P ops ld mk D Q rest (ρ.put o.dst undef) S) : TW P ops ld mk D Q (i :: rest) ρ S
  | maker {i : Nat} {o : Oper} {rest : List Nat} {ρ : Env} {S : St} (g : Nat → Value) (obj : Obj) (hi : ops[i]? = some o) (hl : i ∉ ld) (hm : i ∈ mk) (hw : ρ.want ops o.guard = true)
      (h : ∀ w, D w → Step P o.op o.type ρ w (g w.heap.size) (w.alloc obj)) (k : ∀ b, (∃ A w, S.with b obj A w) → TW P ops ld mk D Q rest (ρ.put o.dst (g b)) (S.with b obj)) : TW P ops ld mk D Q (i :: rest) ρ S
  | loudx {i : Nat} {o : Oper} {rest : List Nat} {ρ : Env} {S : St} {ι : Type} (S' : ι → Value → St) (hi : ops[i]? = some o) (hl : i ∈ ld) (hm : i ∉ mk) (hw : ρ.want ops o.guard = true) (hg : ∀ x v, Good D (S' x v))
      (h : ∀ A w, S A w → Does P o ρ w fun v w' => (∃ x, S' x v A w') ∧ ∀ b, A b → w'.heap[b]? = w.heap[b]?)
      (k : ∀ x v, (∃ A w, S' x v A w) → TW P ops ld mk D Q rest (ρ.put o.dst v) (S' x v)) : TW P ops ld mk D Q (i :: rest) ρ S

  | peek {i : Nat} {o : Oper} {v : Value} {rest : List Nat} {ρ : Env} {S : St} (hi : ops[i]? = some o) (hl : i ∈ ld) (hm : i ∈ mk) (hw : ρ.want ops o.guard = true)
      (h : ∀ A w, S A w → Does P o ρ w fun v' w' => v' = v ∧ S A w' ∧ ∀ b, A b → w'.heap[b]? = w.heap[b]?) (k : TW P ops ld mk D Q rest (ρ.put o.dst v) S) : TW P ops ld mk D Q (i :: rest) ρ S

/-! ### The order -/
/-- both read what is turned in the region: they may stand in whatever order -/
def Peeks (ld mk : List Nat) (i j : Nat) : Prop := (i ∈ ld ∧ i ∈ mk) ∧ j ∈ ld ∧ j ∈ mk
/-- one may be pulled over the other -/
def Free (ld mk : List Nat) (i j : Nat) : Prop := ¬ (j ∈ ld ∧ (i ∈ ld ∨ i ∈ mk)) ∨ Peeks ld mk i j
def DP (ops : Array Oper) (i j : Nat) : Prop := ∃ o, ops[j]? = some o ∧ ∃ e, e ∈ o.after ∧ Region.binds .any e = true ∧ e.on = i
inductive TP (ops : Array Oper) : Nat → Nat → Prop
  | one {i j : Nat} (h : DP ops i j) : TP ops i j
  | step {i k j : Nat} (h : DP ops k j) (h' : TP ops i k) : TP ops i j
def Apart (ops : Array Oper) (i j : Nat) : Prop := ∃ oi oj, ops[i]? = some oi ∧ ops[j]? = some oj ∧ oi.apart ops oj = true
def Before (ops : Array Oper) (ld mk : List Nat) (i j : Nat) : Prop :=
  i ≠ j ∧ ¬ DP ops j i ∧ (TP ops i j ∨ (Apart ops i j ∧ Free ld mk i j))

def NoSel (ops : Array Oper) : Prop := ∀ (j : Nat) (o : Oper) cs b, ops[j]? = some o → o.op ≠ .select cs b

section
variable {P : Program} {ops : Array Oper} {ld mk : List Nat} {D : World → Prop} {Q : Env → World → Prop}

theorem Env.put_comm (ρ : Env) {x y : Option Nat} (v u : Value) (h : ∀ d, x = some d → y ≠ some d) : (ρ.put x v).put y u = (ρ.put y u).put x v := by
  cases x with
  | none => rfl
  | some d =>
    cases y with
    | none => rfl
    | some e =>
      have hne : d ≠ e := fun he => h d rfl (he ▸ rfl)
      simp only [Env.put, Env.set, Env.mk.injEq, and_true]
      funext t
      by_cases h1 : t = e
      · subst h1; simp [hne.symm]
      · by_cases h2 : t = d
        · subst h2; simp [hne]
        · simp [h1, h2]
theorem Env.ev_put {ρ : Env} {dst : Option Nat} {v : Value} {x : Operand} (h : ∀ d, dst = some d → x ≠ .tmp d) : (ρ.put dst v).ev x = ρ.ev x := by
  cases dst with
  | none => rfl
  | some d =>
    cases x with
    | tmp t =>
      have : t ≠ d := fun e => h d rfl (e ▸ rfl)
      simp [Env.ev, Env.put, Env.set, this]
    | _ => rfl
theorem execOp_env {ρ : Env} (o : Oper) (hs : ∀ cs b, o.op ≠ .select cs b) (dst : Option Nat) (v : Value) (h : ∀ d, dst = some d → d ∉ o.looksAt ops) (d : Option Nat) (pos : String) (aft : Array Edge) (g : Option (Nat × Bool)) :
    execOp (ρ.put dst v).ev ⟨d, o.op, o.type, pos, aft, g⟩ = execOp ρ.ev ⟨d, o.op, o.type, pos, aft, g⟩ :=
  execOp_congr _ hs fun x hx => Env.ev_put fun d hd hxd => h d hd (by
    subst hxd
    exact List.mem_append_left _ (List.mem_filterMap.2 ⟨.tmp d, by simpa using hx, rfl⟩))
theorem want_env {ρ : Env} (o : Oper) (dst : Option Nat) (v : Value) (h : ∀ d, dst = some d → d ∉ o.looksAt ops) : (ρ.put dst v).want ops o.guard = ρ.want ops o.guard := by
  cases dst with
  | none => rfl
  | some d =>
    have hd := h d rfl
    unfold Env.want
    cases hg : o.guard with
    | none => rfl
    | some p =>
      obtain ⟨j, b⟩ := p
      simp only []
      cases hj : (ops[j]?).bind (·.dst) with
      | none => rfl
      | some t =>
        have : t ≠ d := by
          intro e
          apply hd
          subst e
          simp only [Oper.looksAt, hg]
          exact List.mem_append_right _ (by simp [hj])
        simp only [Env.put, Env.set, if_neg this]
theorem Step.env {ρ : Env} {o : Oper} {w w' : World} {u : Value} (hs : ∀ cs b, o.op ≠ .select cs b) (dst : Option Nat) (v : Value) (h : ∀ d, dst = some d → d ∉ o.looksAt ops) :
    Step P o.op o.type (ρ.put dst v) w u w' ↔ Step P o.op o.type ρ w u w' := by
  unfold Step
  constructor <;> intro hh d pos aft g
  · rw [← execOp_env o hs dst v h]; exact hh d pos aft g
  · rw [execOp_env o hs dst v h]; exact hh d pos aft g
theorem Does.env {ρ : Env} {o : Oper} {w : World} {R : Value → World → Prop} (hs : ∀ cs b, o.op ≠ .select cs b) (dst : Option Nat) (v : Value) (h : ∀ d, dst = some d → d ∉ o.looksAt ops) :
    Does P o (ρ.put dst v) w R → Does P o ρ w R := by
  rintro (⟨u, w', h1, h2⟩ | ⟨nx, h0, h1, h2⟩)
  · exact .inl ⟨u, w', (Step.env hs dst v h).1 h1, h2⟩
  · refine .inr ⟨nx, h0, fun d pos aft g => ?_, h2⟩
    rw [← execOp_env o hs dst v h]; exact h1 d pos aft g
theorem Does.env' {ρ : Env} {o : Oper} {w : World} {R : Value → World → Prop} (hs : ∀ cs b, o.op ≠ .select cs b) (dst : Option Nat) (v : Value) (h : ∀ d, dst = some d → d ∉ o.looksAt ops) :
    Does P o ρ w R → Does P o (ρ.put dst v) w R := by
  rintro (⟨u, w', h1, h2⟩ | ⟨nx, h0, h1, h2⟩)
  · exact .inl ⟨u, w', (Step.env hs dst v h).2 h1, h2⟩
  · refine .inr ⟨nx, h0, fun d pos aft g => ?_, h2⟩
    rw [execOp_env o hs dst v h]; exact h1 d pos aft g
theorem Does.mono {ρ : Env} {o : Oper} {w : World} {R R' : Value → World → Prop} (h : Does P o ρ w R) (hr : ∀ v w', R v w' → R' v w') : Does P o ρ w R' := by
  rcases h with ⟨u, w', h1, h2⟩ | ⟨nx, h0, h1, h2⟩
  · exact .inl ⟨u, w', h1, hr _ _ h2⟩
  · exact .inr ⟨nx, h0, h1, h2.mono hr⟩
theorem Does.inhabited {ρ : Env} {o : Oper} {w : World} {R : Value → World → Prop} (h : Does P o ρ w R) : ∃ v w', R v w' := by
  rcases h with ⟨u, w', _, h2⟩ | ⟨nx, _, _, h2⟩
  · exact ⟨u, w', h2⟩
  · obtain ⟨v, w', hR, _⟩ := h2 default []
    exact ⟨v, w', hR⟩
theorem Step.det {op : Op} {ty : TypeId} {ρ : Env} {w w1 w2 : World} {v1 v2 : Value} (h1 : Step P op ty ρ w v1 w1) (h2 : Step P op ty ρ w v2 w2) : v1 = v2 ∧ w1 = w2 := by
  rcases h1 none "" #[] none with h1 | ⟨h1, e1⟩ <;> rcases h2 none "" #[] none with h2 | ⟨h2, e2⟩ <;> rw [h1] at h2 <;> simp at h2
  · exact h2
  · exact ⟨e1.trans e2.symm, h2⟩
theorem alloc_inj {w : World} {o o' : Obj} (h : w.alloc o = w.alloc o') : o = o' := by
  have h1 := heap_alloc_new w o
  rw [h, heap_alloc_new] at h1
  simpa using h1.symm

theorem TW.weaken {l : List Nat} {ρ : Env} {S : St} (h : TW P ops ld mk D Q l ρ S) : ∀ {S2 : St}, (∀ A w, S2 A w → S A w) → (∀ A w w', S2 A w → S A w' → (∀ b, A b → w'.heap[b]? = w.heap[b]?) → S2 A w') → TW P ops ld mk D Q l ρ S2 := by
  induction h with
  | nil h => exact fun hs _ => .nil fun A w h2 => h A w (hs A w h2)
  | steady hi hl hm hw h _ ih => exact fun hs hk => .steady hi hl hm hw h (ih hs hk)
  | pass hi hw _ ih => exact fun hs hk => .pass hi hw (ih hs hk)
  | maker g obj hi hl hm hw h _ ih => exact fun hs hk => .maker g obj hi hl hm hw h fun b ⟨A, w, h2⟩ => ih b ⟨A, w, hs _ _ h2.1, h2.2⟩ (fun A w h2 => ⟨hs _ _ h2.1, h2.2⟩) fun A w w' h2 h1 hb =>
      ⟨hk _ w w' h2.1 h1.1 fun x hx => hx.elim (fun e => by subst e; exact h1.2.1.trans h2.2.1.symm) (hb x), h1.2⟩
  | loudx S' hi hl hm hw hg h k _ => exact fun hs _ => .loudx S' hi hl hm hw hg (fun A w h2 => h A w (hs A w h2)) k
  | peek hi hl hm hw h _ ih => exact fun hs hk => .peek hi hl hm hw (fun A w h2 => Does.mono (h A w (hs A w h2)) fun _ w' ⟨e, h1, h3⟩ => ⟨e, hk A w w' h2 h1 h3, h3⟩) (ih hs hk)

theorem TW.loud {i : Nat} {o : Oper} {rest : List Nat} {ρ : Env} {S : St} (S' : Value → St) (hi : ops[i]? = some o) (hl : i ∈ ld) (hw : ρ.want ops o.guard = true) (hg : ∀ v, Good D (S' v))
    (h : ∀ A w, S A w → Does P o ρ w fun v w' => S' v A w' ∧ ∀ b, A b → w'.heap[b]? = w.heap[b]?)
    (k : ∀ v, (∃ A w, S' v A w) → TW P ops ld mk D Q rest (ρ.put o.dst v) (S' v)) (hm : i ∉ mk := by decide) : TW P ops ld mk D Q (i :: rest) ρ S :=
  .loudx (ι := Unit) (fun _ v => S' v) hi hl hm hw (fun _ => hg) (fun A w hs => Does.mono (h A w hs) fun _ _ ⟨h1, h2⟩ => ⟨⟨(), h1⟩, h2⟩) fun _ v hv => k v hv

/-- the order's premise for what is pulled over -/
def Over (ops : Array Oper) (i j : Nat) : Prop := ∃ oi oj, ops[i]? = some oi ∧ ops[j]? = some oj ∧ oi.apart ops oj = true

inductive Pulled (P : Program) (ops : Array Oper) (ld mk : List Nat) (D : World → Prop) (Q : Env → World → Prop) (j : Nat) (o : Oper) (l : List Nat) (ρ : Env) (S : St) : Prop
  | steady (v : Value) (hw : ρ.want ops o.guard = true) (h : ∀ w, D w → Step P o.op o.type ρ w v w) (k : TW P ops ld mk D Q l (ρ.put o.dst v) S)
  | pass (hw : ρ.want ops o.guard = false) (k : TW P ops ld mk D Q l (ρ.put o.dst undef) S)
  | maker (hw : ρ.want ops o.guard = true) (h : ∀ w, D w → ∃ v obj, Step P o.op o.type ρ w v (w.alloc obj) ∧ ((∃ A w', S.with w.heap.size obj A w') → TW P ops ld mk D Q l (ρ.put o.dst v) (S.with w.heap.size obj)))
  | peek (v : Value) (hl : j ∈ ld) (hm : j ∈ mk) (hw : ρ.want ops o.guard = true) (h : ∀ A w, S A w → Does P o ρ w fun v' w' => v' = v ∧ S A w' ∧ ∀ b, A b → w'.heap[b]? = w.heap[b]?) (k : TW P ops ld mk D Q l (ρ.put o.dst v) S)
  | loud {ι : Type} (S' : ι → Value → St) (hl : j ∈ ld) (hm : j ∉ mk) (hw : ρ.want ops o.guard = true) (hg : ∀ x v, Good D (S' x v)) (h : ∀ A w, S A w → Does P o ρ w fun v w' => (∃ x, S' x v A w') ∧ ∀ b, A b → w'.heap[b]? = w.heap[b]?)
      (k : ∀ x v, (∃ A w, S' x v A w) → TW P ops ld mk D Q l (ρ.put o.dst v) (S' x v))

theorem pull (hsel : NoSel ops) {j : Nat} {oj : Oper} (hj : ops[j]? = some oj) (l2 : List Nat) : ∀ (l1 : List Nat) (ρ : Env) (S : St), TW P ops ld mk D Q (l1 ++ j :: l2) ρ S → Good D S →
    (∃ A w, S A w) → (∀ i, i ∈ l1 → Over ops i j ∧ Free ld mk i j) → Pulled P ops ld mk D Q j oj (l1 ++ l2) ρ S := by
  intro l1
  induction l1 with
  | nil =>
    intro ρ S h hG _ _
    cases h with
    | steady hi hl hm hw h k => rw [hj] at hi; cases hi; exact .steady _ hw h k
    | pass hi hw k => rw [hj] at hi; cases hi; exact .pass hw k
    | maker g obj hi hl hm hw h k =>
      rw [hj] at hi; cases hi
      exact .maker hw fun w hd => ⟨_, obj, h w hd, k _⟩
    | loudx S' hi hl hm hw hg h k => rw [hj] at hi; cases hi; exact .loud S' hl hm hw hg h k
    | peek hi hl hm hw h k => rw [hj] at hi; cases hi; exact .peek _ hl hm hw h k
  | cons i l1 ih =>
    intro ρ S h hG hin hov
    obtain ⟨⟨oi, oj', hoi, hoj, hap⟩, hnl⟩ := hov i (by simp)
    rw [hj] at hoj; cases hoj
    obtain ⟨a1, a2, a3⟩ := Oper.apart_spec hap
    have hov' : ∀ x, x ∈ l1 → Over ops x j ∧ Free ld mk x j := fun x hx => hov x (by simp [hx])
    have hsi := fun cs b => hsel i oi cs b hoi
    have hsj := fun cs b => hsel j oj cs b hj
    have a2' : ∀ d, oj.dst = some d → oi.dst ≠ some d := fun d hd he => a2 d he hd
    cases h with
    | @steady _ o v _ _ _ hi hl hm hw h k =>
      rw [hoi] at hi; cases hi
      have K := ih _ S k hG hin hov'
      have stay : ∀ (u : Value) (S2 : St), TW P ops ld mk D Q (l1 ++ l2) ((ρ.put oi.dst v).put oj.dst u) S2 → TW P ops ld mk D Q (i :: (l1 ++ l2)) (ρ.put oj.dst u) S2 := fun u S2 hk =>
        .steady hoi hl hm (by rw [want_env oi _ _ a3]; exact hw) (fun w hd => (Step.env hsi _ _ a3).2 (h w hd)) (by rw [Env.put_comm ρ u v a2']; exact hk)
      cases K with
      | steady u hw' h' k' => exact .steady u (by rw [← want_env oj _ _ a1]; exact hw') (fun w hd => (Step.env hsj _ _ a1).1 (h' w hd)) (stay u S k')
      | pass hw' k' => exact .pass (by rw [← want_env oj _ _ a1]; exact hw') (stay _ S k')
      | maker hw' h' => exact .maker (by rw [← want_env oj _ _ a1]; exact hw') fun w hd => let ⟨u, obj, h1, h2⟩ := h' w hd; ⟨u, obj, (Step.env hsj _ _ a1).1 h1, fun hin => stay u _ (h2 hin)⟩
      | peek u hl' hm' hw' h' k' => exact .peek u hl' hm' (by rw [← want_env oj _ _ a1]; exact hw') (fun A w hs => Does.env hsj _ _ a1 (h' A w hs)) (stay u S k')
      | loud S' hl' hm' hw' hg' h' k' => exact .loud S' hl' hm' (by rw [← want_env oj _ _ a1]; exact hw') hg' (fun A w hs => Does.env hsj _ _ a1 (h' A w hs)) fun x u hu => stay u _ (k' x u hu)
    | @pass _ o _ _ _ hi hw k =>
      rw [hoi] at hi; cases hi
      have K := ih _ S k hG hin hov'
      have stay : ∀ (u : Value) (S2 : St), TW P ops ld mk D Q (l1 ++ l2) ((ρ.put oi.dst undef).put oj.dst u) S2 → TW P ops ld mk D Q (i :: (l1 ++ l2)) (ρ.put oj.dst u) S2 := fun u S2 hk =>
        .pass hoi (by rw [want_env oi _ _ a3]; exact hw) (by rw [Env.put_comm ρ u undef a2']; exact hk)
      cases K with
      | steady u hw' h' k' => exact .steady u (by rw [← want_env oj _ _ a1]; exact hw') (fun w hd => (Step.env hsj _ _ a1).1 (h' w hd)) (stay u S k')
      | pass hw' k' => exact .pass (by rw [← want_env oj _ _ a1]; exact hw') (stay _ S k')
      | maker hw' h' => exact .maker (by rw [← want_env oj _ _ a1]; exact hw') fun w hd => let ⟨u, obj, h1, h2⟩ := h' w hd; ⟨u, obj, (Step.env hsj _ _ a1).1 h1, fun hin => stay u _ (h2 hin)⟩
      | peek u hl' hm' hw' h' k' => exact .peek u hl' hm' (by rw [← want_env oj _ _ a1]; exact hw') (fun A w hs => Does.env hsj _ _ a1 (h' A w hs)) (stay u S k')
      | loud S' hl' hm' hw' hg' h' k' => exact .loud S' hl' hm' (by rw [← want_env oj _ _ a1]; exact hw') hg' (fun A w hs => Does.env hsj _ _ a1 (h' A w hs)) fun x u hu => stay u _ (k' x u hu)
    | @maker _ o _ _ _ g obj hi hl hm hw h k =>
      rw [hoi] at hi; cases hi
      replace hnl : ¬ (j ∈ ld ∧ (i ∈ ld ∨ i ∈ mk)) := hnl.elim id fun hp => absurd hp.1.1 hl
      obtain ⟨A0, w0, hs0⟩ := hin
      have hd0 := hG.d _ _ hs0
      have mk_in : ∀ A w, S A w → (S.with w.heap.size obj) A (w.alloc obj) := fun A w hs =>
        ⟨hG.alloc _ _ _ hs, heap_alloc_new w obj, fun hA => by have := hG.lt _ _ hs _ hA; omega⟩
      have K := fun b hb => ih _ (S.with b obj) (k b hb) (hG.with b obj) hb hov'
      have K0 := K w0.heap.size ⟨A0, _, mk_in _ _ hs0⟩
      have stay : ∀ (u : Value) (S2 : St), (∀ b, (∃ A w, S2.with b obj A w) → TW P ops ld mk D Q (l1 ++ l2) ((ρ.put oi.dst (g b)).put oj.dst u) (S2.with b obj)) → TW P ops ld mk D Q (i :: (l1 ++ l2)) (ρ.put oj.dst u) S2 := fun u S2 hk =>
        .maker g obj hoi hl hm (by rw [want_env oi _ _ a3]; exact hw) (fun w hd => (Step.env hsi _ _ a3).2 (h w hd)) fun b hb => by rw [Env.put_comm ρ u (g b) a2']; exact hk b hb
      cases K0 with
      | steady u hw' h' k' =>
        have h1 : ∀ w, D w → Step P oj.op oj.type ρ w u w := fun w hd => (Step.env hsj _ _ a1).1 (h' w hd)
        refine .steady u (by rw [← want_env oj _ _ a1]; exact hw') h1 (stay u S fun b hb => ?_)
        cases K b hb with
        | steady u2 hw2 h2 k2 => rw [← (Step.det ((Step.env hsj _ _ a1).1 (h2 w0 hd0)) (h1 w0 hd0)).1]; exact k2
        | pass hw2 k2 => rw [want_env oj _ _ a1] at hw2 hw'; rw [hw'] at hw2; cases hw2
        | maker hw2 h2 =>
          obtain ⟨A, w, hs⟩ := hb
          obtain ⟨v2, o2, h3, _⟩ := h2 w (hG.d _ _ hs.1)
          have := congrArg (fun w => w.heap.size) (Step.det ((Step.env hsj _ _ a1).1 h3) (h1 w (hG.d _ _ hs.1))).2
          simp at this
        | peek _ hl' => exact absurd ⟨hl', .inr hm⟩ hnl
        | loud _ hl' => exact absurd ⟨hl', .inr hm⟩ hnl
      | pass hw' k' =>
        refine .pass (by rw [← want_env oj _ _ a1]; exact hw') (stay _ S fun b hb => ?_)
        cases K b hb with
        | pass hw2 k2 => exact k2
        | steady u2 hw2 h2 k2 => rw [want_env oj _ _ a1] at hw2 hw'; rw [hw'] at hw2; cases hw2
        | maker hw2 h2 => rw [want_env oj _ _ a1] at hw2 hw'; rw [hw'] at hw2; cases hw2
        | peek _ hl' => exact absurd ⟨hl', .inr hm⟩ hnl
        | loud _ hl' => exact absurd ⟨hl', .inr hm⟩ hnl
      | maker hw' h' =>
        refine .maker (by rw [← want_env oj _ _ a1]; exact hw') fun w hd => ?_
        obtain ⟨u, obj', h1, _⟩ := h' w hd
        have h1' := (Step.env hsj _ _ a1).1 h1
        refine ⟨u, obj', h1', fun hin' => stay u _ fun b hb => ?_⟩
        obtain ⟨A, w2, hs2⟩ := hb
        have hs3 := St.with_swap hs2
        cases K b ⟨_, w2, hs3.1⟩ with
        | maker hw2 h2 =>
          obtain ⟨u2, o2, h3, h4⟩ := h2 w hd
          obtain ⟨e1, e2⟩ := Step.det ((Step.env hsj _ _ a1).1 h3) h1'
          subst e1
          cases alloc_inj e2
          exact (h4 ⟨A, w2, hs3⟩).weaken (fun A w h => St.with_swap h) fun A w w' _ h _ => St.with_swap h
        | steady v2 hw2 h2 k2 =>
          have := congrArg (fun w => w.heap.size) (Step.det ((Step.env hsj _ _ a1).1 (h2 w hd)) h1').2
          simp at this
        | pass hw2 k2 => rw [want_env oj _ _ a1] at hw2 hw'; rw [hw'] at hw2; cases hw2
        | peek _ hl' => exact absurd ⟨hl', .inr hm⟩ hnl
        | loud _ hl' => exact absurd ⟨hl', .inr hm⟩ hnl
      | peek _ hl' => exact absurd ⟨hl', .inr hm⟩ hnl
      | loud _ hl' => exact absurd ⟨hl', .inr hm⟩ hnl
    | @peek _ o v _ _ _ hi hl hm hw h k =>
      rw [hoi] at hi; cases hi
      have K := ih _ S k hG hin hov'
      have stay : ∀ (u : Value) (S2 : St), (∀ A w, S2 A w → Does P oi ρ w fun v' w' => v' = v ∧ S2 A w' ∧ ∀ b, A b → w'.heap[b]? = w.heap[b]?) → TW P ops ld mk D Q (l1 ++ l2) ((ρ.put oi.dst v).put oj.dst u) S2 → TW P ops ld mk D Q (i :: (l1 ++ l2)) (ρ.put oj.dst u) S2 := fun u S2 h2 hk =>
        .peek hoi hl hm (by rw [want_env oi _ _ a3]; exact hw) (fun A w hs => Does.env' hsi _ _ a3 (h2 A w hs)) (by rw [Env.put_comm ρ u v a2']; exact hk)
      cases K with
      | steady u hw' h' k' => exact .steady u (by rw [← want_env oj _ _ a1]; exact hw') (fun w hd => (Step.env hsj _ _ a1).1 (h' w hd)) (stay u S h k')
      | pass hw' k' => exact .pass (by rw [← want_env oj _ _ a1]; exact hw') (stay _ S h k')
      | maker hw' h' => exact .maker (by rw [← want_env oj _ _ a1]; exact hw') fun w hd => let ⟨u, obj, h1, h2⟩ := h' w hd; ⟨u, obj, (Step.env hsj _ _ a1).1 h1, fun hin => stay u _ (fun A w hs => Does.mono (h _ w hs.1) fun _ w' ⟨e, h1, hb⟩ => ⟨e, ⟨h1, (hb _ (.inl rfl)).trans hs.2.1, hs.2.2⟩, fun b hA => hb b (.inr hA)⟩) (h2 hin)⟩
      | peek u hl' hm' hw' h' k' => exact .peek u hl' hm' (by rw [← want_env oj _ _ a1]; exact hw') (fun A w hs => Does.env hsj _ _ a1 (h' A w hs)) (stay u S h k')
      | loud S' hl' hm' => exact (hnl.elim (fun hn => hn ⟨hl', .inl hl⟩) fun hp => hm' hp.2.2).elim
    | loudx S' hi hl hm hw hg h k =>
      rw [hoi] at hi; cases hi
      replace hnl : ¬ (j ∈ ld ∧ (i ∈ ld ∨ i ∈ mk)) := hnl.elim id fun hp => absurd hp.1.2 hm
      obtain ⟨A0, w0, hs0⟩ := hin
      have hd0 := hG.d _ _ hs0
      obtain ⟨v0, w0', ⟨x0, hv0⟩, _⟩ := (h A0 w0 hs0).inhabited
      have K := fun x v hv => ih _ (S' x v) (k x v hv) (hg x v) hv hov'
      have K0 := K x0 v0 ⟨_, _, hv0⟩
      have does : ∀ (u : Value) A w, S A w → Does P oi (ρ.put oj.dst u) w fun v w' => (∃ x, S' x v A w') ∧ ∀ b, A b → w'.heap[b]? = w.heap[b]? := fun u A w hs => (Does.env' hsi _ _ a3) (h A w hs)
      have stay : ∀ (u : Value), (∀ x v, (∃ A w, S' x v A w) → TW P ops ld mk D Q (l1 ++ l2) ((ρ.put oi.dst v).put oj.dst u) (S' x v)) → TW P ops ld mk D Q (i :: (l1 ++ l2)) (ρ.put oj.dst u) S := fun u hk =>
        .loudx S' hoi hl hm (by rw [want_env oi _ _ a3]; exact hw) hg (does u) fun x v hv => by rw [Env.put_comm ρ u v a2']; exact hk x v hv
      cases K0 with
      | steady u hw' h' k' =>
        have h1 : ∀ w, D w → Step P oj.op oj.type ρ w u w := fun w hd => (Step.env hsj _ _ a1).1 (h' w hd)
        refine .steady u (by rw [← want_env oj _ _ a1]; exact hw') h1 (stay u fun x v hv => ?_)
        cases K x v hv with
        | steady u2 hw2 h2 k2 => rw [← (Step.det ((Step.env hsj _ _ a1).1 (h2 w0 hd0)) (h1 w0 hd0)).1]; exact k2
        | pass hw2 k2 => rw [want_env oj _ _ a1] at hw2 hw'; rw [hw'] at hw2; cases hw2
        | maker hw2 h2 =>
          obtain ⟨v2, o2, h3, _⟩ := h2 w0 hd0
          have := congrArg (fun w => w.heap.size) (Step.det ((Step.env hsj _ _ a1).1 h3) (h1 w0 hd0)).2
          simp at this
        | peek _ hl' => exact absurd ⟨hl', .inl hl⟩ hnl
        | loud _ hl' => exact absurd ⟨hl', .inl hl⟩ hnl
      | pass hw' k' =>
        refine .pass (by rw [← want_env oj _ _ a1]; exact hw') (stay _ fun x v hv => ?_)
        cases K x v hv with
        | pass hw2 k2 => exact k2
        | steady u2 hw2 h2 k2 => rw [want_env oj _ _ a1] at hw2 hw'; rw [hw'] at hw2; cases hw2
        | maker hw2 h2 => rw [want_env oj _ _ a1] at hw2 hw'; rw [hw'] at hw2; cases hw2
        | peek _ hl' => exact absurd ⟨hl', .inl hl⟩ hnl
        | loud _ hl' => exact absurd ⟨hl', .inl hl⟩ hnl
      | maker hw' h' =>
        refine .maker (by rw [← want_env oj _ _ a1]; exact hw') fun w hd => ?_
        obtain ⟨u, obj', h1, _⟩ := h' w hd
        have h1' := (Step.env hsj _ _ a1).1 h1
        refine ⟨u, obj', h1', fun _ => ?_⟩
        refine .loudx (fun x v => (S' x v).with w.heap.size obj') hoi hl hm (by rw [want_env oi _ _ a3]; exact hw) (fun x v => (hg x v).with _ _) ?_ ?_
        · intro A w2 hs2
          have hb := lt_of_blk hs2.2.1
          refine Does.mono (does u _ w2 hs2.1) ?_
          rintro v w3 ⟨⟨x, h3⟩, h4⟩
          exact ⟨⟨x, h3, (h4 _ (.inl rfl)).trans hs2.2.1, hs2.2.2⟩, fun b hb => h4 b (.inr hb)⟩
        · rintro x v ⟨A, w2, hs2⟩
          rw [Env.put_comm ρ u v a2']
          cases K x v ⟨_, w2, hs2.1⟩ with
          | maker hw2 h2 =>
            obtain ⟨u2, o2, h3, h4⟩ := h2 w hd
            obtain ⟨e1, e2⟩ := Step.det ((Step.env hsj _ _ a1).1 h3) h1'
            subst e1
            cases alloc_inj e2
            exact h4 ⟨A, w2, hs2⟩
          | steady v2 hw2 h2 k2 =>
            have := congrArg (fun w => w.heap.size) (Step.det ((Step.env hsj _ _ a1).1 (h2 w hd)) h1').2
            simp at this
          | pass hw2 k2 => rw [want_env oj _ _ a1] at hw2 hw'; rw [hw'] at hw2; cases hw2
          | peek _ hl' => exact absurd ⟨hl', .inl hl⟩ hnl
          | loud _ hl' => exact absurd ⟨hl', .inl hl⟩ hnl
      | peek _ hl' => exact absurd ⟨hl', .inl hl⟩ hnl
      | loud _ hl' => exact absurd ⟨hl', .inl hl⟩ hnl
end
end Tp
