/- Aggregates joined, panes and rows in order, as plain data. -/
import Derived.Test.YthihknbbibgchaaTrSum
import Derived.Test.YthihknbbibgchaaTrStr
set_option linter.all false
namespace Tp
open Go
structure Pane5 where
  key : ByteArray
  start : Int
  fin : Int
deriving DecidableEq, Inhabited
structure Row5 where
  pane : Pane5
  agg : Agg5
deriving DecidableEq, Inhabited
def paneE (p : Pane5) : List Value := [.string p.key, .int .i64 p.start, .int .i64 p.fin]
def rowE (r : Row5) : List Value := [.string r.pane.key, .int .i64 r.pane.start, .int .i64 r.pane.fin, .int .i64 r.agg.count, .int .i64 r.agg.sum, .int .i64 r.agg.min, .int .i64 r.agg.max]
def rowV (r : Row5) : Value := .agg #[.string r.pane.key, .int .i64 r.pane.start, .int .i64 r.pane.fin, .int .i64 r.agg.count, .int .i64 r.agg.sum, .int .i64 r.agg.min, .int .i64 r.agg.max]
/-- the first that is not 0 -/
def orL (l : List Int) : Int := (l.find? fun x => x != 0).getD 0
theorem orL_hit {l : List Int} {i : Nat} {x : Int} (hi : l[i]? = some x) (hx : x ≠ 0) (hb : ∀ j u, j < i → l[j]? = some u → u = 0) : orL l = x := by
  obtain ⟨h1, h2⟩ := List.getElem?_eq_some_iff.1 hi
  have : l.find? (fun x => x != 0) = some x := by
    rw [List.find?_eq_some_iff_getElem]
    refine ⟨by simpa using hx, i, h1, h2, fun j hj => ?_⟩
    have := hb j l[j] hj (List.getElem?_eq_getElem _)
    simp [this]
  simp [orL, this]
theorem orL_none {l : List Int} {i : Nat} (hb : ∀ j u, j < i → l[j]? = some u → u = 0) (hi : l.length ≤ i) : orL l = 0 := by
  have : l.find? (fun x => x != 0) = none := by
    rw [List.find?_eq_none]
    intro x hx
    obtain ⟨j, hj⟩ := List.getElem?_of_mem hx
    have h1 := (List.getElem?_eq_some_iff.1 hj).1
    rw [hb j x (by omega) hj]; simp
  simp [orL, this]
theorem orL_step {l : List Int} {i : Nat} {x : Int} (hb : ∀ j u, j < i → l[j]? = some u → u = 0) (hi : l[i]? = some x) (hx : x = 0) : ∀ j u, j < i + 1 → l[j]? = some u → u = 0 := fun j u hj hu => by
  rcases Nat.lt_or_ge j i with h | h
  · exact hb j u h hu
  · have : j = i := by omega
    subst this; rw [hi] at hu; cases hu; exact hx
def primV (a b : Pane5) : Int := orL [cmpS a.key b.key, cmpI a.fin b.fin, cmpI a.start b.start]
def secoV (a b : Pane5) : Int := orL [cmpI a.fin b.fin, cmpS a.key b.key, cmpI a.start b.start]
def ordV (second : Bool) (a b : Pane5) : Int := if second then secoV a b else primV a b
/-! ### One element brought down, by exchanges -/
section
variable {α : Type} (c : α → α → Int)
/-- the element at j goes down as long as it is less than the one below it -/
def bub : List α → Nat → List α
  | ys, 0 => ys
  | ys, j + 1 => match ys[j + 1]?, ys[j]? with
    | some x, some y => if c x y < 0 then bub ((ys.set (j + 1) y).set j x) j else ys
    | _, _ => ys
theorem bub_go {ys : List α} {j : Nat} {x y : α} (hj : 0 < j) (hx : ys[j]? = some x) (hy : ys[j - 1]? = some y) (h : c x y < 0) : bub c ys j = bub c ((ys.set j y).set (j - 1) x) (j - 1) := by
  obtain ⟨k, rfl⟩ : ∃ k, j = k + 1 := ⟨j - 1, by omega⟩
  simp only [Nat.add_sub_cancel] at *
  rw [bub, hx, hy]; simp [h]
theorem bub_stop {ys : List α} {j : Nat} {x y : α} (hj : 0 < j) (hx : ys[j]? = some x) (hy : ys[j - 1]? = some y) (h : ¬ c x y < 0) : bub c ys j = ys := by
  obtain ⟨k, rfl⟩ : ∃ k, j = k + 1 := ⟨j - 1, by omega⟩
  simp only [Nat.add_sub_cancel] at *
  rw [bub, hx, hy]; simp [h]
theorem bub_zero {ys : List α} : bub c ys 0 = ys := by rw [bub]
theorem bub_len (ys : List α) (j : Nat) : (bub c ys j).length = ys.length := by
  induction j generalizing ys with
  | zero => rw [bub]
  | succ j ih =>
    rw [bub]
    split
    · split
      · rw [ih]; simp
      · rfl
    · rfl
/-- what lies above j stays -/
theorem bub_take (ys : List α) (j : Nat) : bub c (ys.take (j + 1)) j = (bub c ys j).take (j + 1) ∧ (bub c ys j).drop (j + 1) = ys.drop (j + 1) := by
  suffices h : ∀ (j n : Nat) (ys : List α), j < n → bub c (ys.take n) j = (bub c ys j).take n ∧ (bub c ys j).drop n = ys.drop n from h j (j + 1) ys (by omega)
  intro j
  induction j with
  | zero => intro n ys h; simp [bub_zero]
  | succ j ih =>
    intro n ys h
    have e1 : (ys.take n)[j + 1]? = ys[j + 1]? := by rw [List.getElem?_take]; simp [h]
    have e2 : (ys.take n)[j]? = ys[j]? := by rw [List.getElem?_take]; simp; omega
    rw [bub, bub, e1, e2]
    cases hx : ys[j + 1]? with
    | none => exact ⟨rfl, rfl⟩
    | some x =>
      cases hy : ys[j]? with
      | none => exact ⟨rfl, rfl⟩
      | some y =>
        simp only
        split
        · have h2 := ih n ((ys.set (j + 1) y).set j x) (by omega)
          rw [List.take_set, List.take_set] at h2
          refine ⟨h2.1, h2.2.trans ?_⟩
          rw [List.drop_set_of_lt (by omega), List.drop_set_of_lt (by omega)]
        · exact ⟨rfl, rfl⟩
/-- the elements below k, one behind the other, brought down -/
def sortN (xs : List α) : Nat → List α
  | 0 => xs
  | k + 1 => bub c (sortN xs k) k
def sortV (xs : List α) : List α := sortN c xs xs.length
theorem sortN_len (xs : List α) (k : Nat) : (sortN c xs k).length = xs.length := by
  induction k with
  | zero => rfl
  | succ k ih => rw [sortN, bub_len, ih]
theorem sortN_drop (xs : List α) (k : Nat) : (sortN c xs k).drop k = xs.drop k := by
  induction k with
  | zero => rfl
  | succ k ih =>
    rw [sortN, (bub_take c _ k).2]
    have := congrArg (List.drop 1) ih
    simpa [List.drop_drop] using this
/-- by the reference: one more is appended, and brought down -/
theorem sortN_snoc {xs : List α} {k : Nat} {x : α} (hx : xs[k]? = some x) : (sortN c xs (k + 1)).take (k + 1) = bub c ((sortN c xs k).take k ++ [x]) k := by
  rw [sortN, ← (bub_take c _ k).1]
  congr 1
  have h1 : (sortN c xs k)[k]? = some x := by
    have := congrArg (fun l => l[0]?) (sortN_drop c xs k)
    simpa [hx] using this
  exact (take_snoc h1).symm
end
/-! ### Joined -/
def minmax (o : Agg5) (first : Bool) (a : Agg5) : Agg5 := ⟨o.count, o.sum, if first then a.min else Min.min o.min a.min, if first then a.max else Max.max o.max a.max⟩
def nonB (l : List Agg5) : List Agg5 := l.filter fun a => !decide (a = aggZ)
def minA : List Agg5 → Int
  | [] => 0
  | a :: l => l.foldl (fun m x => Min.min m x.min) a.min
def maxA : List Agg5 → Int
  | [] => 0
  | a :: l => l.foldl (fun m x => Max.max m x.max) a.max
def cntJ (l : List Agg5) : List Int := (nonB l).map (·.count)
def sumJ (l : List Agg5) : List Int := (nonB l).map (·.sum)
def minJ (l : List Agg5) : Int := minA (nonB l)
def maxJ (l : List Agg5) : Int := maxA (nonB l)
def joinL (l : List Agg5) : Agg5 × Int :=
  if fits (sumI (cntJ l)) && fits (sumI (sumJ l)) then (⟨sumI (cntJ l), sumI (sumJ l), minJ l, maxJ l⟩, 0) else (aggZ, 30)
def inJ (l : List Agg5) : Prop := ∀ a, a ∈ l → in64 a.count ∧ in64 a.sum
instance (l : List Agg5) : Decidable (inJ l) := inferInstanceAs (Decidable (∀ a, a ∈ l → in64 a.count ∧ in64 a.sum))
section
variable {l : List Agg5} {i : Nat} {a : Agg5}
end
def putA (a : Agg5) (v : Int) : Agg5 × Int := if (joinL [a, ⟨1, v, v, v⟩]).2 = 0 then joinL [a, ⟨1, v, v, v⟩] else (a, 30)
/-! ### Least and greatest -/
def minI : List Int → Int
  | [] => 0
  | a :: l => l.foldl Min.min a
def maxI : List Int → Int
  | [] => 0
  | a :: l => l.foldl Max.max a
def allV (xs : List Int) : Agg5 × Int := if xs.length = 0 then (aggZ, 0) else if fits (sumI xs) then (⟨xs.length, sumI xs, minI xs, maxI xs⟩, 0) else (aggZ, 30)
end Tp
