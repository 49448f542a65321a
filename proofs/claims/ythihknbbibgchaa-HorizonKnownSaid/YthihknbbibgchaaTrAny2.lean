/- A region whose order is drawn: the theorem. -/
import Derived.Test.YthihknbbibgchaaTrAny
namespace Tp
open Go

section
variable {P : Program} {ops : Array Oper} {ld mk : List Nat} {D : World → Prop} {Q : Env → World → Prop}

/-- the indices listed are just those that are not among l -/
structure Left (ops : Array Oper) (listed : Array Bool) (l : List Nat) : Prop where
  size : listed.size = ops.size
  nodup : l.Nodup
  lt : ∀ i, i ∈ l → i < ops.size
  iff : ∀ i, i < ops.size → (listed.getD i false = true ↔ i ∉ l)
  down : ∀ i j, DP ops i j → j < ops.size → j ∉ l → i < ops.size ∧ i ∉ l

theorem Left.tp {listed : Array Bool} {l : List Nat} (h : Left ops listed l) {i j : Nat} (ht : TP ops i j) : (∀ k, DP ops k j → k < ops.size ∧ k ∉ l) → i < ops.size ∧ i ∉ l := by
  induction ht with
  | one hd => exact fun hj => hj _ hd
  | step hd _ ih => exact fun hj => let ⟨a, b⟩ := hj _ hd; ih fun k hk => h.down k _ hk a b

theorem Left.ready {listed : Array Bool} {l : List Nat} (h : Left ops listed l) {j : Nat} (hj : j ∈ Region.ready .any ops listed) : j ∈ l ∧ ∀ k, DP ops k j → k < ops.size ∧ k ∉ l := by
  simp only [Region.ready, List.mem_filter, List.mem_range, Bool.and_eq_true, Bool.not_eq_true'] at hj
  obtain ⟨h1, h2, h3⟩ := hj
  have hsz := h.size
  have hg : listed.getD j false = false := by
    rw [Array.getD_eq_getD_getElem?] at h2 ⊢
    rw [Array.getElem?_eq_getElem (by omega)] at h2 ⊢
    simpa using h2
  refine ⟨?_, ?_⟩
  · cases Classical.em (j ∈ l) with
    | inl h => exact h
    | inr hn => rw [(h.iff j h1).2 hn] at hg; cases hg
  · rintro k ⟨o, ho, e, he, hb, rfl⟩
    rw [ho] at h3
    simp only [Option.map_some, Option.getD_some] at h3
    have := Array.all_eq_true'.1 h3 e he
    rw [hb] at this
    simp only [Bool.not_true, Bool.false_or] at this
    have hlt : e.on < ops.size := by
      rcases Nat.lt_or_ge e.on ops.size with hh | hh
      · exact hh
      · rw [Array.getD_eq_getD_getElem?, Array.getElem?_eq_none (by omega)] at this; cases this
    exact ⟨hlt, (h.iff _ hlt).1 this⟩

theorem Left.next {listed : Array Bool} {l1 l2 : List Nat} {j : Nat} (h : Left ops listed (l1 ++ j :: l2)) (hp : ∀ k, DP ops k j → k < ops.size ∧ k ∉ (l1 ++ j :: l2)) : Left ops (listed.setIfInBounds j true) (l1 ++ l2) := by
  have hnd := h.nodup
  have hj : j ∉ l1 ++ l2 := by
    rw [List.nodup_append] at hnd
    obtain ⟨_, h2, h3⟩ := hnd
    intro hm
    rcases List.mem_append.1 hm with hm | hm
    · exact h3 j hm j (by simp) rfl
    · exact (List.nodup_cons.1 h2).1 hm
  have hjlt := h.lt j (by simp)
  refine ⟨by simp [h.size], hnd.sublist (by simp), fun i hi => h.lt i (by rcases List.mem_append.1 hi with hi | hi <;> simp [hi]), ?_, ?_⟩
  · intro i hi
    have := h.iff i hi
    rw [Array.getD_eq_getD_getElem?, Array.getElem?_setIfInBounds]
    by_cases e : j = i
    · subst e
      simp [h.size, hjlt, hj]
    · rw [if_neg e, ← Array.getD_eq_getD_getElem?, this]
      have e' : i ≠ j := fun h => e h.symm
      simp [e']
  · intro i k hd hk hkl
    by_cases e : k = j
    · subst e
      have := hp i hd
      exact ⟨this.1, fun hm => this.2 (by rcases List.mem_append.1 hm with hm | hm <;> simp [hm])⟩
    · have := h.down i k hd hk (by
        intro hm
        rcases List.mem_append.1 hm with hm | hm
        · exact hkl (by simp [hm])
        · rcases List.mem_cons.1 hm with hm | hm
          · exact e hm
          · exact hkl (by simp [hm]))
      exact ⟨this.1, fun hm => this.2 (by rcases List.mem_append.1 hm with hm | hm <;> simp [hm])⟩

theorem any_of_tw {n : Nat} {Q' : Act → World → Prop} {rd : Option Nat} (hsel : NoSel ops) (hdst : dstOk n ops.toList = true) (hQ : ∀ {a : Act} (ρ : Env) (w : World), (EnvOf n ρ a ∧ ρ.rd = rd) → Q ρ w → Q' a w) :
    ∀ (m : Nat) (l : List Nat) (ρ : Env) (S : St) (listed : Array Bool) (A : Nat → Prop) (w : World) (a : Act), l.length = m → ρ.rd = rd → TW P ops ld mk D Q l ρ S → Good D S → S A w → EnvOf n ρ a →
      Left ops listed l → l.Pairwise (Before ops ld mk) → (∀ i, i ∈ l → ∀ k, DP ops k i → k < ops.size ∧ k ≠ i) → anyR P ops Q' rd m listed a w := by
  intro m
  induction m with
  | zero =>
    intro l ρ S listed A w a hl hrd h _ hs ha hL _ _
    have : l = [] := List.eq_nil_of_length_eq_zero hl
    subst this
    refine ⟨?_, ?_⟩
    · cases hr : Region.ready .any ops listed with
      | nil => rfl
      | cons j t => exact absurd (hL.ready (j := j) (by rw [hr]; simp)).1 (by simp)
    · cases h with
      | nil h => exact hQ ρ w ⟨ha, hrd⟩ (h A w hs)
  | succ m ih =>
    intro l ρ S listed A w a hl hrd h hG hs ha hL hp hk
    refine ⟨?_, ?_⟩
    · -- the first of the list can be carried out
      intro hr
      exfalso
      cases l with
      | nil => simp at hl
      | cons i l =>
        have hi : i ∈ Region.ready .any ops listed := by
          have hlt := hL.lt i (by simp)
          simp only [Region.ready, List.mem_filter, List.mem_range, Bool.and_eq_true, Bool.not_eq_true']
          refine ⟨hlt, ?_, ?_⟩
          · have : ¬ listed.getD i false = true := fun h => (hL.iff i hlt).1 h (by simp)
            rw [Array.getD_eq_getD_getElem?] at this ⊢
            rw [Array.getElem?_eq_getElem (by rw [hL.size]; exact hlt)] at this ⊢
            simpa using this
          · rw [Array.getElem?_eq_getElem hlt]
            simp only [Option.map_some, Option.getD_some]
            refine Array.all_eq_true'.2 fun e he => ?_
            cases hb : Region.binds .any e with
            | false => rfl
            | true =>
              simp only [Bool.not_true, Bool.false_or]
              have hdp : DP ops e.on i := ⟨_, Array.getElem?_eq_getElem hlt, e, he, hb, rfl⟩
              obtain ⟨hlt', hne⟩ := hk i (by simp) e.on hdp
              refine (hL.iff _ hlt').2 fun hm => ?_
              rcases List.mem_cons.1 hm with hm | hm
              · exact hne hm
              · exact ((List.pairwise_cons.1 hp).1 _ hm).2.1 hdp
        rw [hr] at hi
        cases hi
    · intro j hj
      obtain ⟨hjl, hpre⟩ := hL.ready hj
      obtain ⟨l1, l2, rfl⟩ := List.append_of_mem hjl
      obtain ⟨oj, hoj⟩ : ∃ o, ops[j]? = some o := ⟨_, Array.getElem?_eq_getElem (hL.lt j hjl)⟩
      have hov : ∀ i, i ∈ l1 → Over ops i j ∧ Free ld mk i j := by
        intro i hi
        have hb := (List.pairwise_append.1 hp).2.2 i hi j (by simp)
        rcases hb.2.2 with ht | ⟨hap, hn⟩
        · exact absurd (by simp [hi]) (hL.tp ht hpre).2
        · exact ⟨hap, hn⟩
      have hL' := hL.next hpre
      have hp' : (l1 ++ l2).Pairwise (Before ops ld mk) := hp.sublist (by simp)
      have hk' : ∀ i, i ∈ l1 ++ l2 → ∀ k, DP ops k i → k < ops.size ∧ k ≠ i := fun i hi => hk i (by rcases List.mem_append.1 hi with hi | hi <;> simp [hi])
      have hl' : (l1 ++ l2).length = m := by simp at hl ⊢; omega
      have hdo : oj.dst.all (· < n) = true ∧ noDefer oj = true := by
        have := List.all_eq_true.1 hdst oj (by simpa using Array.mem_of_getElem? hoj)
        simpa only [Bool.and_eq_true] using this
      obtain ⟨hd, hnd⟩ := hdo
      have hy := ha.yielded ops oj
      have hrd' : ∀ v, (ρ.put oj.dst v).rd = rd := fun v => by rw [Env.put_rd, hrd]
      cases pull hsel hoj l2 l1 ρ S h hG ⟨A, w, hs⟩ hov with
      | steady v hw h' k' =>
        have hgo := ih _ _ S _ A w _ hl' (hrd' v) k' hG hs (ha.put oj.dst hd v) hL' hp' hk'
        exact opR_value (v := v) hoj hnd (by rw [hy]; exact hw) (by rw [ha.eval]; exact h' w (hG.d _ _ hs) oj.dst oj.pos oj.after oj.guard) hgo
      | pass hw k' =>
        exact opR_pass hoj (by rw [hy]; exact hw) (ih _ _ S _ A w _ hl' (hrd' undef) k' hG hs (ha.put oj.dst hd undef) hL' hp' hk')
      | maker hw h' =>
        obtain ⟨v, obj, h1, h2⟩ := h' w (hG.d _ _ hs)
        have hs' : (S.with w.heap.size obj) A (w.alloc obj) := ⟨hG.alloc _ _ _ hs, heap_alloc_new w obj, fun hA => by have := hG.lt _ _ hs _ hA; omega⟩
        have hgo := ih _ _ _ _ A _ _ hl' (hrd' v) (h2 ⟨A, _, hs'⟩) (hG.with _ _) hs' (ha.put oj.dst hd v) hL' hp' hk'
        exact opR_value (v := v) hoj hnd (by rw [hy]; exact hw) (by rw [ha.eval]; exact h1 oj.dst oj.pos oj.after oj.guard) hgo
      | peek v _ _ hw h' k' =>
        rcases h' A w hs with ⟨v2, w', h1, rfl, h2, _⟩ | ⟨nx, h0, h1, h2⟩
        · have hgo := ih _ _ S _ A w' _ hl' (hrd' v2) k' hG h2 (ha.put oj.dst hd v2) hL' hp' hk'
          exact opR_value (v := v2) hoj hnd (by rw [hy]; exact hw) (by rw [ha.eval]; exact h1 oj.dst oj.pos oj.after oj.guard) hgo
        · refine opR_call hoj hnd (by rw [hy]; exact hw) h0 (by rw [ha.eval]; exact h1 oj.dst oj.pos oj.after oj.guard) h2 ?_
          rintro v2 w' ⟨rfl, hS, _⟩
          exact ih _ _ S _ A w' _ hl' (hrd' v2) k' hG hS (ha.put oj.dst hd v2) hL' hp' hk'
      | loud S' _ _ hw hg h' k' =>
        rcases h' A w hs with ⟨v, w', h1, ⟨x, h2⟩, _⟩ | ⟨nx, h0, h1, h2⟩
        · have hgo := ih _ _ (S' x v) _ A w' _ hl' (hrd' v) (k' x v ⟨A, w', h2⟩) (hg x v) h2 (ha.put oj.dst hd v) hL' hp' hk'
          exact opR_value (v := v) hoj hnd (by rw [hy]; exact hw) (by rw [ha.eval]; exact h1 oj.dst oj.pos oj.after oj.guard) hgo
        · refine opR_call hoj hnd (by rw [hy]; exact hw) h0 (by rw [ha.eval]; exact h1 oj.dst oj.pos oj.after oj.guard) h2 ?_
          rintro v w' ⟨⟨x, hS⟩, _⟩
          exact ih _ _ (S' x v) _ A w' _ hl' (hrd' v) (k' x v ⟨A, w', hS⟩) (hg x v) hS (ha.put oj.dst hd v) hL' hp' hk'

/-! ### The check -/
def ordB (ops : Array Oper) (cl : Array Nat) (ld mk : List Nat) : List Nat → List Nat → Bool
  | _, [] => true
  | done, j :: rest =>
    (match ops[j]? with
     | none => false
     | some o => o.after.all (fun e => !Region.binds .any e || (done.contains e.on && e.on != j)) && !done.contains j &&
        done.all fun i => (cl.getD j 0).testBit i || ((match ops[i]? with | some oi => oi.apart ops o | none => false) && (!(ld.contains j && (ld.contains i || mk.contains i)) || (ld.contains i && mk.contains i && (ld.contains j && mk.contains j))))) &&
    ordB ops cl ld mk (j :: done) rest
def noSelB (ops : Array Oper) : Bool := ops.all fun o => match o.op with | .select .. => false | _ => true
def anyB (n : Nat) (ops : Array Oper) (ld mk ord : List Nat) : Bool :=
  noSelB ops && dstOk n ops.toList && ordB ops (Region.before ops) ld mk [] ord && (List.range ops.size).all (fun i => ord.contains i)

theorem before_inner {cl : Array Nat} : ∀ (l : List Edge) (s i : Nat), (l.foldl (fun s e => if Region.binds .any e then s ||| 2 ^ e.on ||| cl.getD e.on 0 else s) s).testBit i = true →
    s.testBit i = true ∨ ∃ e, e ∈ l ∧ Region.binds .any e = true ∧ (e.on = i ∨ (cl.getD e.on 0).testBit i = true) := by
  intro l
  induction l with
  | nil => intro s i h; exact .inl h
  | cons e l ih =>
    intro s i h
    rw [List.foldl_cons] at h
    rcases ih _ i h with h1 | ⟨e', he', h2⟩
    · by_cases hb : Region.binds .any e = true
      · rw [if_pos hb] at h1
        simp only [Nat.testBit_or, Bool.or_eq_true, Nat.testBit_two_pow, decide_eq_true_eq] at h1
        rcases h1 with (h1 | h1) | h1
        · exact .inl h1
        · exact .inr ⟨e, by simp, hb, .inl h1⟩
        · exact .inr ⟨e, by simp, hb, .inr h1⟩
      · rw [if_neg hb] at h1; exact .inl h1
    · exact .inr ⟨e', by simp [he'], h2⟩
theorem before_tp (ops : Array Oper) : ∀ j i, ((Region.before ops).getD j 0).testBit i = true → TP ops i j := by
  have key : ∀ (l : List Oper) (acc : Array Nat), (∀ k, l[k]? = ops[acc.size + k]?) → (∀ j i, (acc.getD j 0).testBit i = true → TP ops i j) →
      ∀ j i, ((l.foldl (fun acc o => acc.push (o.after.foldl (fun s e => if Region.binds .any e then s ||| 2 ^ e.on ||| acc.getD e.on 0 else s) 0)) acc).getD j 0).testBit i = true → TP ops i j := by
    intro l
    induction l with
    | nil => intro acc _ h; exact h
    | cons o l ih =>
      intro acc hl h
      rw [List.foldl_cons]
      refine ih _ (fun k => ?_) fun j i hji => ?_
      · have := hl (k + 1)
        simpa [Nat.add_assoc, Nat.add_comm 1 k] using this
      · rw [Array.getD_eq_getD_getElem?, Array.getElem?_push] at hji
        split at hji
        · rename_i hj
          have ho : ops[j]? = some o := by rw [hj]; simpa using (hl 0).symm
          simp only [Option.getD_some] at hji
          rw [← Array.foldl_toList] at hji
          rcases before_inner o.after.toList 0 i hji with h1 | ⟨e, he, hb, h2⟩
          · simp at h1
          · rcases h2 with h2 | h2
            · exact .one ⟨o, ho, e, by simpa using he, hb, h2⟩
            · exact .step ⟨o, ho, e, by simpa using he, hb, rfl⟩ (h _ _ h2)
        · exact h j i (by rw [Array.getD_eq_getD_getElem?]; exact hji)
  intro j i h
  refine key ops.toList #[] (by simp) (by simp) j i ?_
  rw [Array.foldl_toList]
  exact h

theorem ordB_spec {cl : Array Nat} (hcl : ∀ j i, (cl.getD j 0).testBit i = true → TP ops i j) : ∀ (l done : List Nat), ordB ops cl ld mk done l = true →
    (∀ j, j ∈ l → j ∉ done ∧ j < ops.size) ∧ l.Nodup ∧ l.Pairwise (Before ops ld mk) ∧ (∀ j, j ∈ l → ∀ k, DP ops k j → (k ∈ done ∨ k ∈ l) ∧ k ≠ j) ∧
      (∀ i, i ∈ done → ∀ j, j ∈ l → (TP ops i j ∨ (Apart ops i j ∧ Free ld mk i j))) := by
  intro l
  induction l with
  | nil => intro done _; exact ⟨fun _ h => (by cases h), .nil, .nil, fun _ h => (by cases h), fun _ _ _ h => (by cases h)⟩
  | cons j l ih =>
    intro done h
    simp only [ordB, Bool.and_eq_true] at h
    obtain ⟨h, hrest⟩ := h
    obtain ⟨i1, i2, i3, i4, i5⟩ := ih _ hrest
    cases ho : ops[j]? with
    | none => rw [ho] at h; cases h
    | some o =>
      rw [ho] at h
      simp only [Bool.and_eq_true, Bool.not_eq_true'] at h
      obtain ⟨⟨h1, h2⟩, h3⟩ := h
      have hjd : j ∉ done := by simpa using h2
      have hjlt : j < ops.size := (Array.getElem?_eq_some_iff.1 ho).1
      have hdp : ∀ k, DP ops k j → k ∈ done ∧ k ≠ j := by
        rintro k ⟨o', ho', e, he, hb, rfl⟩
        rw [ho] at ho'; cases ho'
        have := Array.all_eq_true'.1 h1 e he
        simpa [hb] using this
      have hpair : ∀ i, i ∈ done → (TP ops i j ∨ (Apart ops i j ∧ Free ld mk i j)) := by
        intro i hi
        have := List.all_eq_true.1 h3 i hi
        rw [Bool.or_eq_true, Bool.and_eq_true] at this
        rcases this with h | ⟨ha, hn⟩
        · exact .inl (hcl _ _ h)
        · refine .inr ⟨?_, ?_⟩
          · cases hoi : ops[i]? with
            | none => rw [hoi] at ha; cases ha
            | some oi => rw [hoi] at ha; exact ⟨oi, o, hoi, ho, ha⟩
          · rw [Bool.or_eq_true] at hn
            rcases hn with hn | hn
            · left
              rintro ⟨a, b⟩
              simp only [Bool.not_eq_true', Bool.and_eq_false_iff, Bool.or_eq_false_iff] at hn
              rcases hn with hn | ⟨hn1, hn2⟩
              · simp at hn; exact hn a
              · simp at hn1 hn2
                exact b.elim hn1 hn2
            · right
              simpa [Peeks, and_assoc] using hn
      refine ⟨?_, ?_, ?_, ?_, ?_⟩
      · intro x hx
        rcases List.mem_cons.1 hx with rfl | hx
        · exact ⟨hjd, hjlt⟩
        · exact ⟨fun hd => (i1 x hx).1 (by simp [hd]), (i1 x hx).2⟩
      · exact List.nodup_cons.2 ⟨fun hm => (i1 j hm).1 (by simp), i2⟩
      · refine List.pairwise_cons.2 ⟨fun x hx => ⟨fun e => (i1 x hx).1 (by simp [e]), fun hd => (i1 x hx).1 (by simp [(hdp x hd).1]), i5 j (by simp) x hx⟩, i3⟩
      · intro x hx k hk
        rcases List.mem_cons.1 hx with rfl | hx
        · exact ⟨.inl (hdp k hk).1, (hdp k hk).2⟩
        · obtain ⟨h1, h2⟩ := i4 x hx k hk
          refine ⟨?_, h2⟩
          rcases h1 with h1 | h1
          · rcases List.mem_cons.1 h1 with rfl | h1
            · exact .inr (by simp)
            · exact .inl h1
          · exact .inr (by simp [h1])
      · intro i hi x hx
        rcases List.mem_cons.1 hx with rfl | hx
        · exact hpair i hi
        · exact i5 i (by simp [hi]) x hx
end

theorem W.region_any {P : Program} {n id : Nat} {l : List Oper} {Q : Exit → Env → World → Prop} {ρ : Env} {w : World} (ord ld mk : List Nat) (D : World → Prop) (S : St)
    (hm : P.follows .mixedOrders = true) (hB : anyB n l.toArray ld mk ord = true) (hG : Good D S) (hS : S (fun _ => False) w.drew) (h : TW P l.toArray ld mk D (Q .normal) ord ρ S) :
    W P n (.region id l.toArray true) Q ρ w := by
  intro a ha b k cs hb
  simp only [anyB, Bool.and_eq_true] at hB
  obtain ⟨⟨⟨h1, h2⟩, h3⟩, h4⟩ := hB
  obtain ⟨s1, s2, s3, s4, _⟩ := ordB_spec (before_tp l.toArray) ord [] h3
  have hsel : NoSel l.toArray := by
    intro j o cs b hj ho
    have := Array.all_eq_true'.1 h1 o (Array.mem_of_getElem? hj)
    rw [ho] at this
    cases this
  have hcov : ∀ i, i < l.toArray.size → i ∈ ord := fun i hi => by
    have := List.all_eq_true.1 h4 i (List.mem_range.2 hi)
    simpa using this
  have hlen : ord.length = l.toArray.size := by
    have p1 : ord.length ≤ (List.range l.toArray.size).length := s2.length_le_of_subset fun x hx => List.mem_range.2 (s1 x hx).2
    have p2 : (List.range l.toArray.size).length ≤ ord.length := List.nodup_range.length_le_of_subset fun x hx => hcov x (List.mem_range.1 hx)
    simp only [List.length_range] at p1 p2
    omega
  suffices hany : anyR P l.toArray (fun a w => lift n Q .normal a w ρ.rd) ρ.rd l.toArray.size (Array.replicate l.toArray.size false) a w.drew by
    obtain ⟨a', w', hq, hs⟩ := anyR_sound l.toArray.size (w.tape w.drawn (.order b.fn id)) _ a _ hany b k cs hb
    refine ⟨.normal, a', w', hq, Steps.head stepR_region_draw ?_⟩
    simp only [Region.schedule, hm, Bool.true_or, if_true]
    exact hs
  rw [← hlen]
  refine any_of_tw hsel h2 (fun ρ' w h1 h => ⟨ρ', h1.1, h1.2, h⟩) _ ord ρ S _ (fun _ => False) w.drew a rfl rfl h hG hS ha ?_ s3 ?_
  · refine ⟨by simp [hlen], s2, fun i hi => (s1 i hi).2, ?_, fun i j _ hj hn => absurd (hcov j hj) hn⟩
    intro i hi
    have hf : (Array.replicate ord.length false).getD i false = false := by
      rw [Array.getD_eq_getD_getElem?, Array.getElem?_replicate]; split <;> rfl
    rw [hf]
    exact ⟨fun h => (by cases h), fun h => absurd (hcov i hi) h⟩
  · intro i hi k hk
    obtain ⟨h1, h2⟩ := s4 i hi k hk
    refine ⟨?_, h2⟩
    rcases h1 with h1 | h1
    · cases h1
    · exact (s1 k h1).2
end Tp
