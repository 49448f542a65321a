/- A region whose order is drawn, of two parts: all of the second one come behind all of the first one. -/
import Derived.Test.YthihknbbibgchaaTrGen
set_option linter.all false
namespace Tp
open Go
section
variable {P : Program} {ops : Array Oper} {ld mk : List Nat} {D : World → Prop} {Q : Env → World → Prop}
/-- what is left to do behind the first part -/
def Mid (P : Program) (ops : Array Oper) (ld mk : List Nat) (Q : Env → World → Prop) (suf : List Nat) : Env → World → Prop := fun ρ w => ∃ (D2 : World → Prop) (S2 : St), TW P ops ld mk D2 Q suf ρ S2 ∧ Good D2 S2 ∧ ∃ A, S2 A w
theorem any_of_tw2 {n : Nat} {Q' : Act → World → Prop} {rd : Option Nat} (suf : List Nat) (hsel : NoSel ops) (hdst : dstOk n ops.toList = true) (hQ : ∀ {a : Act} (ρ : Env) (w : World), (EnvOf n ρ a ∧ ρ.rd = rd) → Q ρ w → Q' a w) :
    ∀ (m : Nat) (l : List Nat) (ρ : Env) (S : St) (listed : Array Bool) (A : Nat → Prop) (w : World) (a : Act), l.length = m → ρ.rd = rd → TW P ops ld mk D (Mid P ops ld mk Q suf) l ρ S → Good D S → S A w → EnvOf n ρ a →
      Left ops listed (l ++ suf) → (l ++ suf).Pairwise (Before ops ld mk) → (∀ i, i ∈ l → ∀ j, j ∈ suf → TP ops i j) → (∀ i, i ∈ l ++ suf → ∀ k, DP ops k i → k < ops.size ∧ k ≠ i) → anyR P ops Q' rd (m + suf.length) listed a w := by
  intro m
  induction m with
  | zero =>
    intro l ρ S listed A w a hl hrd h hG hs ha hL hp hsuf hk
    have : l = [] := List.eq_nil_of_length_eq_zero hl
    subst this
    cases h with
    | nil h =>
      obtain ⟨D2, S2, h1, h2, A2, h3⟩ := h A w hs
      rw [Nat.zero_add]
      exact any_of_tw hsel hdst hQ _ suf ρ S2 listed A2 w a rfl hrd h1 h2 h3 ha hL hp hk
  | succ m ih =>
    intro l ρ S listed A w a hl hrd h hG hs ha hL hp hsuf hk
    rw [show m + 1 + suf.length = (m + suf.length) + 1 by omega]
    refine ⟨?_, ?_⟩
    · -- the first of the list can be carried out
      intro hr
      exfalso
      cases l with
      | nil => simp at hl
      | cons i l =>
        rw [List.cons_append] at hL hp hk
        have hi : i ∈ Region.ready .any ops listed := by
          have hlt := hL.lt i (by simp)
          simp only [Region.ready, List.mem_filter, List.mem_range, Bool.and_eq_true, Bool.not_eq_true']
          refine ⟨hlt, ?_, ?_⟩
          · have : ¬ listed.getD i false = true := fun h => (hL.iff i hlt).1 h (by simp)
            rw [Array.getD_eq_getD_getElem?] at this ⊢
            rw [Array.getElem?_eq_getElem (by rw [hL.size]; exact hlt)] at this ⊢
            simpa using this
          · rw [Array.getElem?_eq_getElem hlt]
            simp only [Option.map_some, Option.getD_some]
            refine Array.all_eq_true'.2 fun e he => ?_
            cases hb : Region.binds .any e with
            | false => rfl
            | true =>
              simp only [Bool.not_true, Bool.false_or]
              have hdp : DP ops e.on i := ⟨_, Array.getElem?_eq_getElem hlt, e, he, hb, rfl⟩
              obtain ⟨hlt', hne⟩ := hk i (by simp) e.on hdp
              refine (hL.iff _ hlt').2 fun hm => ?_
              rcases List.mem_cons.1 hm with hm | hm
              · exact hne hm
              · exact ((List.pairwise_cons.1 hp).1 _ hm).2.1 hdp
        rw [hr] at hi
        cases hi
    · intro j hj
      obtain ⟨hjl, hpre⟩ := hL.ready hj
      obtain ⟨oj, hoj⟩ : ∃ o, ops[j]? = some o := ⟨_, Array.getElem?_eq_getElem (hL.lt j hjl)⟩
      have hjl : j ∈ l := by
        rcases List.mem_append.1 hjl with h1 | h1
        · exact h1
        · cases l with
          | nil => simp at hl
          | cons i l => exact absurd (by simp) (hL.tp (hsuf i (by simp) j h1) hpre).2
      obtain ⟨l1, l2, rfl⟩ := List.append_of_mem hjl
      rw [List.append_assoc, List.cons_append] at hL hp hk hpre
      have hov : ∀ i, i ∈ l1 → Over ops i j ∧ Free ld mk i j := by
        intro i hi
        have hb := (List.pairwise_append.1 hp).2.2 i hi j (by simp)
        rcases hb.2.2 with ht | ⟨hap, hn⟩
        · exact absurd (by simp [hi]) (hL.tp ht hpre).2
        · exact ⟨hap, hn⟩
      have hL' := hL.next hpre
      have hp' : (l1 ++ (l2 ++ suf)).Pairwise (Before ops ld mk) := hp.sublist (by simp)
      have hsuf' : ∀ i, i ∈ l1 ++ l2 → ∀ j, j ∈ suf → TP ops i j := fun i hi => hsuf i (by rcases List.mem_append.1 hi with hi | hi <;> simp [hi])
      rw [← List.append_assoc] at hL' hp'
      have hk' : ∀ i, i ∈ l1 ++ l2 ++ suf → ∀ k, DP ops k i → k < ops.size ∧ k ≠ i := fun i hi => hk i (by simp only [List.mem_append] at hi; rcases hi with (hi | hi) | hi <;> simp [hi])
      have hl' : (l1 ++ l2).length = m := by simp at hl ⊢; omega
      have hdo : oj.dst.all (· < n) = true ∧ noDefer oj = true := by
        have := List.all_eq_true.1 hdst oj (by simpa using Array.mem_of_getElem? hoj)
        simpa only [Bool.and_eq_true] using this
      obtain ⟨hd, hnd⟩ := hdo
      have hy := ha.yielded ops oj
      have hrd' : ∀ v, (ρ.put oj.dst v).rd = rd := fun v => by rw [Env.put_rd, hrd]
      cases pull hsel hoj l2 l1 ρ S h hG ⟨A, w, hs⟩ hov with
      | steady v hw h' k' =>
        have hgo := ih _ _ S _ A w _ hl' (hrd' v) k' hG hs (ha.put oj.dst hd v) hL' hp' hsuf' hk'
        exact opR_value (v := v) hoj hnd (by rw [hy]; exact hw) (by rw [ha.eval]; exact h' w (hG.d _ _ hs) oj.dst oj.pos oj.after oj.guard) hgo
      | pass hw k' =>
        exact opR_pass hoj (by rw [hy]; exact hw) (ih _ _ S _ A w _ hl' (hrd' undef) k' hG hs (ha.put oj.dst hd undef) hL' hp' hsuf' hk')
      | maker hw h' =>
        obtain ⟨v, obj, h1, h2⟩ := h' w (hG.d _ _ hs)
        have hs' : (S.with w.heap.size obj) A (w.alloc obj) := ⟨hG.alloc _ _ _ hs, heap_alloc_new w obj, fun hA => by have := hG.lt _ _ hs _ hA; omega⟩
        have hgo := ih _ _ _ _ A _ _ hl' (hrd' v) (h2 ⟨A, _, hs'⟩) (hG.with _ _) hs' (ha.put oj.dst hd v) hL' hp' hsuf' hk'
        exact opR_value (v := v) hoj hnd (by rw [hy]; exact hw) (by rw [ha.eval]; exact h1 oj.dst oj.pos oj.after oj.guard) hgo
      | peek v _ _ hw h' k' =>
        rcases h' A w hs with ⟨v2, w', h1, rfl, h2, _⟩ | ⟨nx, h0, h1, h2⟩
        · have hgo := ih _ _ S _ A w' _ hl' (hrd' v2) k' hG h2 (ha.put oj.dst hd v2) hL' hp' hsuf' hk'
          exact opR_value (v := v2) hoj hnd (by rw [hy]; exact hw) (by rw [ha.eval]; exact h1 oj.dst oj.pos oj.after oj.guard) hgo
        · refine opR_call hoj hnd (by rw [hy]; exact hw) h0 (by rw [ha.eval]; exact h1 oj.dst oj.pos oj.after oj.guard) h2 ?_
          rintro v2 w' ⟨rfl, hS, _⟩
          exact ih _ _ S _ A w' _ hl' (hrd' v2) k' hG hS (ha.put oj.dst hd v2) hL' hp' hsuf' hk'
      | loud S' _ _ hw hg h' k' =>
        rcases h' A w hs with ⟨v, w', h1, ⟨x, h2⟩, _⟩ | ⟨nx, h0, h1, h2⟩
        · have hgo := ih _ _ (S' x v) _ A w' _ hl' (hrd' v) (k' x v ⟨A, w', h2⟩) (hg x v) h2 (ha.put oj.dst hd v) hL' hp' hsuf' hk'
          exact opR_value (v := v) hoj hnd (by rw [hy]; exact hw) (by rw [ha.eval]; exact h1 oj.dst oj.pos oj.after oj.guard) hgo
        · refine opR_call hoj hnd (by rw [hy]; exact hw) h0 (by rw [ha.eval]; exact h1 oj.dst oj.pos oj.after oj.guard) h2 ?_
          rintro v w' ⟨⟨x, hS⟩, _⟩
          exact ih _ _ (S' x v) _ A w' _ hl' (hrd' v) (k' x v ⟨A, w', hS⟩) (hg x v) hS (ha.put oj.dst hd v) hL' hp' hsuf' hk'


def sufB (ops : Array Oper) (pre suf : List Nat) : Bool := suf.all fun j => pre.all fun i => ((Region.before ops).getD j 0).testBit i
end
theorem W.region_any2 {P : Program} {n id : Nat} {l : List Oper} {Q : Exit → Env → World → Prop} {ρ : Env} {w : World} (pre suf ld mk : List Nat) (D : World → Prop) (S : St)
    (hm : P.follows .mixedOrders = true) (hB : (anyB n l.toArray ld mk (pre ++ suf) && sufB l.toArray pre suf) = true) (hG : Good D S) (hS : S (fun _ => False) w.drew) (h : TW P l.toArray ld mk D (Mid P l.toArray ld mk (Q .normal) suf) pre ρ S) :
    W P n (.region id l.toArray true) Q ρ w := by
  intro a ha b k cs hb
  rw [Bool.and_eq_true] at hB
  obtain ⟨hB, hsuf⟩ := hB
  generalize hord : pre ++ suf = ord at hB
  simp only [anyB, Bool.and_eq_true] at hB
  obtain ⟨⟨⟨h1, h2⟩, h3⟩, h4⟩ := hB
  obtain ⟨s1, s2, s3, s4, _⟩ := ordB_spec (before_tp l.toArray) ord [] h3
  have hsel : NoSel l.toArray := by
    intro j o cs b hj ho
    have := Array.all_eq_true'.1 h1 o (Array.mem_of_getElem? hj)
    rw [ho] at this
    cases this
  have hcov : ∀ i, i < l.toArray.size → i ∈ ord := fun i hi => by
    have := List.all_eq_true.1 h4 i (List.mem_range.2 hi)
    simpa using this
  have hlen : ord.length = l.toArray.size := by
    have p1 : ord.length ≤ (List.range l.toArray.size).length := s2.length_le_of_subset fun x hx => List.mem_range.2 (s1 x hx).2
    have p2 : (List.range l.toArray.size).length ≤ ord.length := List.nodup_range.length_le_of_subset fun x hx => hcov x (List.mem_range.1 hx)
    simp only [List.length_range] at p1 p2
    omega
  suffices hany : anyR P l.toArray (fun a w => lift n Q .normal a w ρ.rd) ρ.rd l.toArray.size (Array.replicate l.toArray.size false) a w.drew by
    obtain ⟨a', w', hq, hs⟩ := anyR_sound l.toArray.size (w.tape w.drawn (.order b.fn id)) _ a _ hany b k cs hb
    refine ⟨.normal, a', w', hq, Steps.head stepR_region_draw ?_⟩
    simp only [Region.schedule, hm, Bool.true_or, if_true]
    exact hs
  rw [← hlen]
  have hl2 : ord.length = pre.length + suf.length := by rw [← hord, List.length_append]
  rw [show anyR P l.toArray (fun a w => lift n Q .normal a w ρ.rd) ρ.rd ord.length = anyR P l.toArray (fun a w => lift n Q .normal a w ρ.rd) ρ.rd (pre.length + suf.length) by rw [hl2]]
  refine any_of_tw2 suf hsel h2 (fun ρ' w h1 h => ⟨ρ', h1.1, h1.2, h⟩) _ pre ρ S _ (fun _ => False) w.drew a rfl rfl h hG hS ha ?_ (by rw [hord]; exact s3) ?_ ?_
  · rw [hord]
    refine ⟨by simp [hlen], s2, fun i hi => (s1 i hi).2, ?_, fun i j _ hj hn => absurd (hcov j hj) hn⟩
    intro i hi
    have hf : (Array.replicate ord.length false).getD i false = false := by
      rw [Array.getD_eq_getD_getElem?, Array.getElem?_replicate]; split <;> rfl
    rw [hf]
    exact ⟨fun h => (by cases h), fun h => absurd (hcov i hi) h⟩
  · intro i hi j hj
    have := List.all_eq_true.1 hsuf j hj
    exact before_tp _ j i (List.all_eq_true.1 this i hi)
  · rw [hord]
    intro i hi k hk
    obtain ⟨h1, h2⟩ := s4 i hi k hk
    refine ⟨?_, h2⟩
    rcases h1 with h1 | h1
    · cases h1
    · exact (s1 k h1).2
section
variable {P : Program} {ops : Array Oper} {ld mk : List Nat} {F X : Nat → Prop} {w0 : World} {L : List Chunk} {R : List (World → Prop)} {ρ : Env}
theorem W.drawn2 {n id : Nat} {l : List Oper} {Q : Exit → Env → World → Prop} {w : World} (M : Mem F X w0 L R w) (pre suf ld mk : List Nat) (Lp : List Chunk) (Rp : List (World → Prop)) (hL : Lp.Sublist L) (hR : ∀ r, r ∈ Rp → r ∈ R)
    (hm : P.follows .mixedOrders = true) (hB : (anyB n l.toArray ld mk (pre ++ suf) && sufB l.toArray pre suf) = true) (h : TW P l.toArray ld mk (Dm F X w0 Lp Rp) (Mid P l.toArray ld mk (Q .normal) suf) pre ρ (MemA F X w0 L R)) : W P n (.region id l.toArray true) Q ρ w :=
  W.region_any2 pre suf ld mk _ _ hm hB (good_mem hL hR) (MemA.start M) h
theorem TW.turn {D : World → Prop} {Q : Env → World → Prop} {suf : List Nat} (Lp : List Chunk) (Rp : List (World → Prop)) (hL : Lp.Sublist L) (hR : ∀ r, r ∈ Rp → r ∈ R) (h : TW P ops ld mk (Dm F X w0 Lp Rp) Q suf ρ (MemA F X w0 L R)) :
    TW P ops ld mk D (Mid P ops ld mk Q suf) [] ρ (MemA F X w0 L R) := .nil fun A w M => ⟨_, _, h, good_mem hL hR, A, M⟩
end
/-- the first elements of a block -/
theorem SlAt.of_blkT {w : World} {b : Nat} {c : Array Value} {e : TypeId} {fz : Nat × Nat} {n cap size : Nat} (h : w.heap[b]? = some (.cells c e fz)) (hn : n ≤ cap) (hc : cap ≤ maxLen) (hs : c.size = cap * size) :
    SlAt size (.slice (some ⟨b, 0, none⟩) n cap) n (c.toList.take (n * size)) w :=
  .inr ⟨b, 0, cap, c, e, fz, rfl, hn, hc, h, by omega, by
    have := Nat.mul_le_mul_right size hn
    simp; omega, fun j hj => by rw [Nat.zero_add, List.getElem?_take, if_pos hj, Array.getElem?_toList]⟩
end Tp
