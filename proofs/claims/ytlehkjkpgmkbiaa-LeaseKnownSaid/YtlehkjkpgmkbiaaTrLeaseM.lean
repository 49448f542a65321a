/- Leases as plain data. -/
import Derived.Test.YtlehkjkpgmkbiaaTrRange
import Derived.Test.YtlehkjkpgmkbiaaTrDel
import Derived.Test.YtlehkjkpgmkbiaaTrLate
import Derived.Test.YtlehkjkpgmkbiaaTrOps4
set_option linter.all false
namespace Tp
open Go
structure Lease where
  id : Int
  owner : Int
  epoch : Int
  till : Int
  cursor : Bool
deriving DecidableEq, Inhabited
def leaseE (x : Lease) : List Value := [.int .u64 x.id, .int .i64 x.owner, .int .u64 x.epoch, .int .u64 x.till, .bool x.cursor]
theorem leaseE_len (x : Lease) : (leaseE x).length = 5 := rfl
theorem leaseE_cel (x : Lease) : Step.Cellish (leaseE x) := cel_cons rfl (cel_cons rfl (cel_cons rfl (cel_cons rfl (cel_cons rfl cel_nil))))
def leaseV (x : Lease) : Value := .agg #[.int .u64 x.id, .int .i64 x.owner, .int .u64 x.epoch, .int .u64 x.till, .bool x.cursor]
def u64E (n : Int) : List Value := [.int .u64 n]
theorem wrap_u64 {a : Int} (h : 0 ≤ a ∧ a < 18446744073709551616) : IntKind.u64.wrap a = a := IntWalk.u64_in a ⟨h.1, by omega⟩
theorem lease_eqB (a b : Lease) : ((a.id : Int) == (b.id : Int) && ((a.owner : Int) == (b.owner : Int) && ((a.epoch : Int) == (b.epoch : Int) && ((a.till : Int) == (b.till : Int) && (((a.cursor : Bool) == (b.cursor : Bool)) && true))))) = decide (a = b) := by
  cases a; cases b
  rw [Bool.eq_iff_iff]; simp
def leaseZ : Lease := ⟨0, 0, 0, 0, false⟩
def isL (o i : Int) (c : Bool) (x : Lease) : Bool := (x.id == i) && ((x.owner == o) && (x.cursor == c))
section
variable {xs : List Lease} {o i e u most last : Int} {c : Bool} {x y : Lease} {k : Nat}
def hasL (xs : List Lease) (o i : Int) (c : Bool) : Bool := xs.any (isL o i c)
def atL (xs : List Lease) (o i : Int) (c : Bool) : Nat := xs.findIdx (isL o i c)
def theL (xs : List Lease) (o i : Int) (c : Bool) : Lease := (xs[atL xs o i c]?).getD leaseZ
def noE (c : Bool) : Int := if c then 260 else 220
theorem hasL_some (h : hasL xs o i c = true) : xs.findIdx? (isL o i c) = some (atL xs o i c) := by
  unfold hasL at h
  rw [List.findIdx?_eq_some_iff_findIdx_eq]
  refine ⟨?_, rfl⟩
  unfold atL
  rw [List.findIdx_lt_length]
  simpa using h
theorem hasL_none (h : hasL xs o i c = false) : xs.findIdx? (isL o i c) = none := by
  unfold hasL at h
  rw [List.findIdx?_eq_none_iff]
  intro x hx
  rw [List.any_eq_false] at h
  simpa using h x hx
theorem atL_lt (h : hasL xs o i c = true) : atL xs o i c < xs.length := by
  have := hasL_some h
  rw [List.findIdx?_eq_some_iff_getElem] at this
  exact this.1
theorem theL_eq (h : xs[atL xs o i c]? = some x) : theL xs o i c = x := by unfold theL; rw [h]; rfl
theorem theL_at (h : hasL xs o i c = true) : xs[atL xs o i c]? = some (theL xs o i c) := by
  have := List.getElem?_eq_getElem (atL_lt h)
  rw [theL_eq this]; exact this
/-- the answers -/
def getV (xs : List Lease) (o i : Int) (c : Bool) : Lease × Int := if hasL xs o i c then (theL xs o i c, 0) else (leaseZ, noE c)
def renewV (xs : List Lease) (o i u : Int) (c : Bool) : List Lease × Lease × Int := if hasL xs o i c then (xs.set (atL xs o i c) { theL xs o i c with till := max (theL xs o i c).till u }, { theL xs o i c with till := max (theL xs o i c).till u }, 0) else (xs, leaseZ, noE c)
def relV (xs : List Lease) (o i : Int) (c : Bool) : List Lease × Int := if hasL xs o i c then (xs.eraseIdx (atL xs o i c), 0) else (xs, noE c)
def moveV (xs : List Lease) (o i e : Int) : List Lease × Lease × Int := if hasL xs o i true then (if e < (theL xs o i true).epoch then (xs, leaseZ, 2) else (xs.set (atL xs o i true) { theL xs o i true with epoch := e }, { theL xs o i true with epoch := e }, 0)) else (xs, leaseZ, 260)
def grantV (xs : List Lease) (most last o e u : Int) (c : Bool) : List Lease × Int × Lease × Int := if (xs.length : Int) ≥ most then (xs, last, leaseZ, 280) else (xs ++ [⟨last + 1, o, e, u, c⟩], last + 1, ⟨last + 1, o, e, u, c⟩, 0)
def minL (xs : List Lease) : Lease := xs.tail.foldl (fun m y => if y.epoch < m.epoch then y else m) (xs.headD leaseZ)
theorem minL_step (h0 : 0 < k) (h : xs[k]? = some x) : minL (xs.take (k + 1)) = if x.epoch < (minL (xs.take k)).epoch then x else minL (xs.take k) := by
  rw [← take_snoc h]
  cases xs with
  | nil => simp at h
  | cons a l =>
    obtain ⟨j, rfl⟩ : ∃ j, k = j + 1 := ⟨k - 1, by omega⟩
    simp [minL]
theorem minL_one (h : xs[0]? = some x) : minL (xs.take 1) = x := by
  cases xs with
  | nil => simp at h
  | cons a l => simp at h; subst h; simp [minL]
def leastV (xs : List Lease) : Int × Bool := if xs.length = 0 then (0, false) else ((minL xs).epoch, true)
def cmpI (a b : Int) : Int := if a < b then -1 else if a > b then 1 else 0
end
end Tp
namespace Tp
theorem cmpI_neg {a b : Int} (h : decide (cmpI a b < 0) = true) : a < b := by
  have := of_decide_eq_true h
  unfold cmpI at this; split at this
  · assumption
  · split at this <;> omega
theorem cmpI_pos {a b : Int} (h : decide (cmpI a b < 0) = false) : ¬ a < b := by
  have := of_decide_eq_false h
  unfold cmpI at this; split at this
  · omega
  · assumption
end Tp
namespace Tp
section
variable {xs : List Lease} {k : Nat} {x : Lease} {p : Lease → Bool}
theorem erase_td (l : List Lease) (i : Nat) : l.take (Int.toNat (i : Int)) ++ l.drop (Int.toNat ((i : Int) + 1)) = l.eraseIdx i := by
  rw [List.eraseIdx_eq_take_drop_succ]
  have : Int.toNat ((i : Int) + 1) = i + 1 := by omega
  rw [this, Int.toNat_natCast]
def goneV (p : Lease → Bool) (gs : List Lease) (x : Lease) : List Lease := if p x then gs ++ [x] else gs
theorem gone_step (h : xs[k]? = some x) : goneV p ((xs.take k).filter p) x = (xs.take (k + 1)).filter p := by
  unfold goneV
  rw [← take_snoc h, List.filter_append, List.filter_cons]
  split <;> rename_i hp <;> simp [hp]
theorem gone_len (h : xs.length ≤ 1000000) : ((xs.take k).filter p).length ≤ 1000000 := Nat.le_trans (List.length_filter_le _ _) (by rw [List.length_take]; omega)
def tillP (n : Int) (x : Lease) : Bool := decide (n ≥ x.till)
def ownP (o : Int) (x : Lease) : Bool := x.owner == o
end
end Tp
