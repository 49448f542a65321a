/- Leases: what a call makes of them, and what stays so. -/
import Derived.Test.YtlehkjkpgmkbiaaTrLease2
import Derived.Test.YtlehkjkpgmkbiaaTrArena2
set_option linter.all false
namespace Tp
section
variable {xs : List Lease} {most last : Int} {a : LAct} {k : Nat} {o i e u : Int} {c : Bool}
def stepL (xs : List Lease) (most last : Int) (a : LAct) : List Lease × Int :=
  if pickI a.op 8 = 0 ∨ pickI a.op 8 = 1 then ((grantV xs most last a.owner a.n a.till a.cursor).1, (grantV xs most last a.owner a.n a.till a.cursor).2.1)
  else if pickI a.op 8 = 2 then (xs, last)
  else if pickI a.op 8 = 3 then ((renewV xs a.owner a.id a.till a.cursor).1, last)
  else if pickI a.op 8 = 4 then ((relV xs a.owner a.id a.cursor).1, last)
  else if pickI a.op 8 = 5 then ((moveV xs a.owner a.id a.n).1, last)
  else if pickI a.op 8 = 6 then (xs.filter fun (x : Lease) => !(tillP a.n x), last)
  else (xs.filter fun (x : Lease) => !(ownP a.owner x), last)
structure LInv (k : Nat) (xs : List Lease) (last : Int) : Prop where
  ids : idsP xs
  le : ∀ x, x ∈ xs → x.id ≤ last
  pos : 0 ≤ last
  few : last ≤ k
  len : xs.length ≤ k
theorem LInv.nil : LInv 0 [] 0 := ⟨List.Pairwise.nil, (fun _ h => absurd h List.not_mem_nil), by omega, by omega, Nat.le_refl _⟩
theorem LInv.more (h : LInv k xs last) : LInv (k + 1) xs last := ⟨h.ids, h.le, h.pos, by have := h.few; omega, by have := h.len; omega⟩
theorem LInv.sub {ys : List Lease} (h : LInv k xs last) (hs : ys.Sublist xs) : LInv k ys last := ⟨h.ids.sublist hs, fun x hx => h.le x (hs.subset hx), h.pos, h.few, Nat.le_trans hs.length_le h.len⟩
theorem LInv.set {j : Nat} {x y : Lease} (h : LInv k xs last) (hx : xs[j]? = some x) (he : y.id = x.id) : LInv k (xs.set j y) last := by
  obtain ⟨hj, hv⟩ := List.getElem?_eq_some_iff.1 hx
  refine ⟨?_, fun z hz => ?_, h.pos, h.few, by rw [List.length_set]; exact h.len⟩
  · have hm : (xs.set j y).map (·.id) = xs.map (·.id) := by
      rw [List.map_set, he, ← hv]
      have : xs[j].id = (xs.map (·.id))[j]'(by simpa using hj) := by simp
      rw [this, List.set_getElem_self]
    have h1 : (xs.map (·.id)).Pairwise (· < ·) := List.pairwise_map.2 h.ids
    rw [← hm] at h1
    exact List.pairwise_map.1 h1
  · rcases List.mem_or_eq_of_mem_set hz with hz | rfl
    · exact h.le z hz
    · rw [he]; exact h.le x (List.mem_of_getElem? hx)
theorem LInv.grant (h : LInv k xs last) : LInv (k + 1) (grantV xs most last o e u c).1 (grantV xs most last o e u c).2.1 := by
  unfold grantV; split
  · exact h.more
  · refine ⟨?_, fun z hz => ?_, by have := h.pos; simp only; omega, by have := h.few; simp only; omega, by have := h.len; simp; omega⟩
    · refine List.pairwise_append.2 ⟨h.ids, List.pairwise_singleton _ _, fun a ha b hb => ?_⟩
      simp at hb; subst hb
      have := h.le a ha; simp only; omega
    · rcases List.mem_append.1 hz with hz | hz
      · have := h.le z hz; simp only; omega
      · simp at hz; subst hz; simp
theorem LInv.renew (h : LInv k xs last) : LInv k (renewV xs o i u c).1 last := by
  unfold renewV; split
  · rename_i hh; exact h.set (theL_at hh) rfl
  · exact h
theorem LInv.move (h : LInv k xs last) : LInv k (moveV xs o i e).1 last := by
  unfold moveV; split
  · rename_i hh; split
    · exact h
    · exact h.set (theL_at hh) rfl
  · exact h
theorem LInv.rel (h : LInv k xs last) : LInv k (relV xs o i c).1 last := by
  unfold relV; split
  · exact h.sub (List.eraseIdx_sublist _ _)
  · exact h
theorem LInv.step (h : LInv k xs last) : LInv (k + 1) (stepL xs most last a).1 (stepL xs most last a).2 := by
  unfold stepL
  split
  · exact h.grant
  · split
    · exact h.more
    · split
      · exact h.renew.more
      · split
        · exact h.rel.more
        · split
          · exact h.move.more
          · split
            · exact (h.sub List.filter_sublist).more
            · exact (h.sub List.filter_sublist).more
end
end Tp
