/- Strings in order. -/
import Derived.Test.YtlehkjkpgmkbiaaTrArenaM
set_option linter.all false
namespace Tp
open Go
/-- one string is less than another -/
def sLt (a b : ByteArray) : Bool := Op.bytesLess a.toList b.toList
theorem bl_irrefl : ∀ x : List UInt8, Op.bytesLess x x = false
  | [] => rfl
  | a :: x => by simp [Op.bytesLess, bl_irrefl x]
theorem bl_trans : ∀ x y z : List UInt8, Op.bytesLess x y = true → Op.bytesLess y z = true → Op.bytesLess x z = true
  | _, _, [], _, h => by simp [Op.bytesLess] at h
  | _, [], _ :: _, h, _ => by cases ‹List UInt8› <;> simp [Op.bytesLess] at h
  | [], _ :: _, _ :: _, _, _ => rfl
  | a :: x, b :: y, c :: z, h1, h2 => by
    simp only [Op.bytesLess, Bool.or_eq_true, Bool.and_eq_true, decide_eq_true_eq, beq_iff_eq] at *
    rcases h1 with h1 | ⟨rfl, h1⟩
    · rcases h2 with h2 | ⟨rfl, h2⟩
      · exact .inl (UInt8.lt_trans h1 h2)
      · exact .inl h1
    · rcases h2 with h2 | ⟨rfl, h2⟩
      · exact .inl h2
      · exact .inr ⟨rfl, bl_trans x y z h1 h2⟩
theorem bl_total : ∀ x y : List UInt8, Op.bytesLess x y = false → Op.bytesLess y x = false → x = y
  | [], [], _, _ => rfl
  | [], _ :: _, h, _ => by simp [Op.bytesLess] at h
  | _ :: _, [], _, h => by simp [Op.bytesLess] at h
  | a :: x, b :: y, h1, h2 => by
    simp only [Op.bytesLess, Bool.or_eq_false_iff, Bool.and_eq_false_imp, decide_eq_false_iff_not, beq_iff_eq] at *
    have e : a = b := by
      have h3 := h1.1; have h4 := h2.1
      rw [UInt8.lt_iff_toNat_lt] at h3 h4
      apply UInt8.toNat_inj.1; omega
    subst e
    rw [bl_total x y (h1.2 rfl) (h2.2 rfl)]
theorem sLt_irrefl (a : ByteArray) : sLt a a = false := bl_irrefl _
theorem sLt_trans {a b c : ByteArray} (h1 : sLt a b = true) (h2 : sLt b c = true) : sLt a c = true := bl_trans _ _ _ h1 h2
theorem sLt_total {a b : ByteArray} (h1 : sLt a b = false) (h2 : sLt b a = false) : a = b := toList_inj (bl_total _ _ h1 h2)
theorem sLt_asymm {a b : ByteArray} (h : sLt a b = true) : sLt b a = false := by
  cases h' : sLt b a with
  | false => rfl
  | true => have := sLt_trans h h'; rw [sLt_irrefl] at this; cases this
theorem sEq_iff {a b : ByteArray} : (a.toList == b.toList) = true ↔ a = b := by
  rw [beq_iff_eq]; exact ⟨toList_inj, fun h => by rw [h]⟩
theorem sEq_dec (a b : ByteArray) : (a.toList == b.toList) = decide (a = b) := by
  rw [Bool.eq_iff_iff, sEq_iff, decide_eq_true_iff]
/-- -1, 0 or 1 -/
def cmpI (a b : Int) : Int := if a < b then -1 else if a > b then 1 else 0
/-- -1, 0 or 1 -/
def cmpS (a b : ByteArray) : Int := if sLt a b then -1 else if a = b then 0 else 1
theorem cmpS_zero {a b : ByteArray} : cmpS a b = 0 ↔ a = b := by
  unfold cmpS
  constructor
  · intro h
    split at h
    · omega
    · split at h
      · assumption
      · omega
  · rintro rfl; simp [sLt_irrefl]
theorem cmpS_swap (a b : ByteArray) : cmpS b a = -cmpS a b := by
  unfold cmpS
  by_cases h : a = b
  · subst h; simp [sLt_irrefl]
  · cases h1 : sLt a b with
    | true => simp [sLt_asymm h1, h, Ne.symm h]
    | false =>
      cases h2 : sLt b a with
      | true => simp [h, Ne.symm h]
      | false => exact absurd (sLt_total h1 h2) h
end Tp
