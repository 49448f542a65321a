/- Sums: by the program (64 digits, and how often they ran over), and by the reference (in four places of 32 digits). -/
import Derived.Test.YtlehkjkpgmkbiaaTrAggM
import Derived.Test.YtlehkjkpgmkbiaaTrOps4
import Derived.Laws.BitsLemmas
set_option linter.all false
namespace Tp
open Go
/-- brought to 64 digits -/
def w64 (n : Int) : Int := (n + 9223372036854775808) % 18446744073709551616 - 9223372036854775808
theorem wrap_w64 (n : Int) : IntKind.i64.wrap n = w64 n := IntKind.wrap_i64 n
def fits (n : Int) : Bool := decide (-9223372036854775808 ≤ n ∧ n ≤ 9223372036854775807)
theorem w64_in (n : Int) : -9223372036854775808 ≤ w64 n ∧ w64 n ≤ 9223372036854775807 := by unfold w64; omega
/-- one number more: the sum, how often it ran over -/
def overS (s o n : Int) : Int := if s ≥ 0 ∧ n ≥ 0 ∧ w64 (s + n) < 0 then o + 1 else if s < 0 ∧ n < 0 ∧ w64 (s + n) ≥ 0 then o - 1 else o
def in64 (n : Int) : Prop := -9223372036854775808 ≤ n ∧ n ≤ 9223372036854775807
instance (n : Int) : Decidable (in64 n) := inferInstanceAs (Decidable (_ ∧ _))
theorem overS_step {s o n t : Int} (hs : in64 s) (hn : in64 n) (h : s + o * 18446744073709551616 = t) : w64 (s + n) + overS s o n * 18446744073709551616 = t + n := by
  unfold overS w64 in64 at *
  split
  · omega
  · split <;> omega
theorem overS_le {s o n : Int} : o - 1 ≤ overS s o n ∧ overS s o n ≤ o + 1 := by unfold overS; split; omega; split <;> omega
def sumI (l : List Int) : Int := l.foldl (· + ·) 0
theorem foldl_add (l : List Int) (a : Int) : l.foldl (· + ·) a = a + sumI l := by
  induction l generalizing a with
  | nil => simp [sumI]
  | cons x l ih =>
    have h1 := ih (a + x); have h2 := ih (0 + x)
    simp only [sumI, List.foldl_cons] at *
    omega
theorem sumI_cons (x : Int) (l : List Int) : sumI (x :: l) = x + sumI l := by rw [sumI, List.foldl_cons, foldl_add]; omega
theorem sumI_append (a b : List Int) : sumI (a ++ b) = sumI a + sumI b := by rw [sumI, List.foldl_append, foldl_add]; rfl
theorem sumI_snoc {l : List Int} {i : Nat} {x : Int} (h : l[i]? = some x) : sumI (l.take (i + 1)) = sumI (l.take i) + x := by
  rw [← take_snoc h, sumI_append, sumI_cons]; simp [sumI]
/-- what both answer -/
def sumV (l : List Int) : Int × Int := if fits (sumI l) then (sumI l, 0) else (0, 30)
theorem sumV_over {s o t : Int} (hs : in64 s) (h : s + o * 18446744073709551616 = t) : (o = 0 ∧ fits t = true ∧ s = t) ∨ (o ≠ 0 ∧ fits t = false) := by
  unfold in64 at hs
  by_cases ho : o = 0
  · subst ho; left; refine ⟨rfl, ?_, by omega⟩; simp [fits]; omega
  · right; refine ⟨ho, ?_⟩; simp [fits]; omega
/-! ### In four places -/
structure Wide where
  a : Int
  b : Int
  c : Int
  d : Int
deriving DecidableEq, Inhabited
def wideE (w : Wide) : List Value := [.int .i64 w.a, .int .i64 w.b, .int .i64 w.c, .int .i64 w.d]
theorem wide_eqB (a b : Wide) : ((a.a : Int) == (b.a : Int) && ((a.b : Int) == (b.b : Int) && ((a.c : Int) == (b.c : Int) && ((a.d : Int) == (b.d : Int) && true)))) = decide (a = b) := by
  cases a; cases b
  rw [Bool.eq_iff_iff]; simp
def settleW (w : Wide) : Wide :=
  ⟨w.a % 4294967296, (w.b + w.a / 4294967296) % 4294967296, (w.c + (w.b + w.a / 4294967296) / 4294967296) % 4294967296, w.d + (w.c + (w.b + w.a / 4294967296) / 4294967296) / 4294967296⟩
def valW (w : Wide) : Int := w.a + w.b * 4294967296 + w.c * 18446744073709551616 + w.d * 79228162514264337593543950336
structure normW (w : Wide) : Prop where
  a : 0 ≤ w.a ∧ w.a < 4294967296
  b : 0 ≤ w.b ∧ w.b < 4294967296
  c : 0 ≤ w.c ∧ w.c < 4294967296
theorem settle_norm (w : Wide) : normW (settleW w) := by constructor <;> simp only [settleW] <;> omega
theorem settle_val (w : Wide) : valW (settleW w) = valW w := by simp only [settleW, valW]; omega
theorem norm_ext {x y : Wide} (hx : normW x) (hy : normW y) (h : valW x = valW y) : x = y := by
  obtain ⟨x1, x2, x3, x4⟩ := x; obtain ⟨y1, y2, y3, y4⟩ := y
  obtain ⟨a1, a2, a3⟩ := hx; obtain ⟨b1, b2, b3⟩ := hy
  simp only [valW] at *
  have h1 : x1 = y1 := by omega
  subst h1
  have h2 : x2 = y2 := by omega
  subst h2
  have h3 : x3 = y3 := by omega
  subst h3
  have h4 : x4 = y4 := by omega
  subst h4; rfl
def ofW (n : Int) : Wide := settleW ⟨n % 4294967296, n / 4294967296, 0, 0⟩
theorem of_norm (n : Int) : normW (ofW n) := settle_norm _
theorem of_val (n : Int) : valW (ofW n) = n := by rw [ofW, settle_val]; simp only [valW]; omega
theorem of_d {n : Int} (h : in64 n) : -1 ≤ (ofW n).d ∧ (ofW n).d ≤ 0 := by simp only [ofW, settleW]; unfold in64 at h; omega
def plusW (x y : Wide) : Wide := settleW ⟨x.a + y.a, x.b + y.b, x.c + y.c, x.d + y.d⟩
theorem plus_norm (x y : Wide) : normW (plusW x y) := settle_norm _
theorem plus_val (x y : Wide) : valW (plusW x y) = valW x + valW y := by rw [plusW, settle_val]; simp only [valW]; omega
theorem plus_d {x y : Wide} (hx : normW x) (hy : normW y) : x.d + y.d ≤ (plusW x y).d ∧ (plusW x y).d ≤ x.d + y.d + 1 := by
  obtain ⟨a1, a2, a3⟩ := hx; obtain ⟨b1, b2, b3⟩ := hy
  simp only [plusW, settleW]; omega
def joinW (w : Wide) : Int := w64 (w.b * 4294967296 + w.a)
theorem back_eq {w : Wide} (h : normW w) : decide (ofW (joinW w) = w) = fits (valW w) := by
  rw [Bool.eq_iff_iff]
  simp only [decide_eq_true_iff]
  constructor
  · intro e
    have h1 := of_val (joinW w)
    rw [e] at h1
    rw [h1]
    have := w64_in (w.b * 4294967296 + w.a)
    unfold joinW; unfold fits; exact decide_eq_true this
  · intro hf
    refine norm_ext (of_norm _) h ?_
    rw [of_val]
    obtain ⟨⟨a1, a2⟩, ⟨b1, b2⟩, c1, c2⟩ := h
    simp [fits] at hf
    simp only [joinW, w64, valW] at *
    omega
theorem join_val {w : Wide} (h : normW w) (hf : fits (valW w) = true) : joinW w = valW w := by
  have h1 := back_eq h
  rw [hf, decide_eq_true_iff] at h1
  have h2 := of_val (joinW w)
  rw [h1] at h2; exact h2.symm
/-! ### The bits -/
theorem toNat_ofInt64 (x : Int) : (BitVec.ofInt 64 x).toNat = (x % 18446744073709551616).toNat := by
  rw [BitVec.toNat_ofInt]; rfl
theorem and_mask (x : Int) : bits .and .i64 x 4294967295 = x % 4294967296 := by
  have h1 : (BitVec.ofInt IntKind.i64.bits x &&& BitVec.ofInt IntKind.i64.bits 4294967295).toNat = (x % 18446744073709551616).toNat &&& (2 ^ 32 - 1) := by
    show (BitVec.ofInt 64 x &&& BitVec.ofInt 64 4294967295).toNat = _
    rw [BitVec.toNat_and, toNat_ofInt64]; rfl
  simp only [bits, h1, Nat.and_two_pow_sub_one_eq_mod, wrap_w64, w64]
  omega
theorem or_join {b a : Int} (ha : 0 ≤ a ∧ a < 4294967296) : bits .or .i64 (w64 (b * 4294967296)) a = w64 (b * 4294967296 + a) := by
  obtain ⟨q, hq⟩ : ∃ q : Nat, (w64 (b * 4294967296) % 18446744073709551616) = ((2 ^ 32 * q : Nat) : Int) := by
    refine ⟨(b % 4294967296).toNat, ?_⟩
    unfold w64; omega
  have hb : (a % 18446744073709551616).toNat < 2 ^ 32 := by omega
  have h1 : (BitVec.ofInt IntKind.i64.bits (w64 (b * 4294967296)) ||| BitVec.ofInt IntKind.i64.bits a).toNat = 2 ^ 32 * q + (a % 18446744073709551616).toNat := by
    show (BitVec.ofInt 64 (w64 (b * 4294967296)) ||| BitVec.ofInt 64 a).toNat = _
    rw [BitVec.toNat_or, toNat_ofInt64, toNat_ofInt64, hq, Int.toNat_natCast, Nat.two_pow_add_eq_or_of_lt hb]
  simp only [bits, h1, wrap_w64]
  unfold w64 at *
  omega
namespace Step
variable {P : Program} {ρ : Env} {w : World} {ty : TypeId}
theorem and32 {t ty' : TypeId} {x y : Operand} {a : Int} (hx : ρ.ev x = .int .i64 a) (hy : ρ.ev y = .int .i64 4294967295) : Step P (.binOp .and t x y ty') ty ρ w (.int .i64 (a % 4294967296)) w := by
  intro d pos aft g
  left
  have h : Op.intBits .and .i64 a 4294967295 = Pure.pure (Value.int .i64 (a % 4294967296)) := by
    show Pure.pure (Value.int .i64 (bits .and .i64 a 4294967295)) = _
    rw [and_mask]
  simp [execOp, eqGuard, hx, hy, binOp, h]
theorem shl32 {t ty' : TypeId} {x y : Operand} {j : IntKind} {a : Int} (hx : ρ.ev x = .int .i64 a) (hy : ρ.ev y = .int j 32) : Step P (.binOp .shl t x y ty') ty ρ w (.int .i64 (w64 (a * 4294967296))) w := by
  intro d pos aft g
  left
  simp [execOp, eqGuard, hx, hy, binOp, shift_shl_any, ← wrap_w64]
  rfl
theorem or32 {t ty' : TypeId} {x y : Operand} {a b : Int} (hx : ρ.ev x = .int .i64 (w64 (b * 4294967296))) (hy : ρ.ev y = .int .i64 a) (ha : 0 ≤ a ∧ a < 4294967296) : Step P (.binOp .or t x y ty') ty ρ w (.int .i64 (w64 (b * 4294967296 + a))) w := by
  intro d pos aft g
  left
  have h : Op.intBits .or .i64 (w64 (b * 4294967296)) a = Pure.pure (Value.int .i64 (w64 (b * 4294967296 + a))) := by
    show Pure.pure (Value.int .i64 (bits .or .i64 (w64 (b * 4294967296)) a)) = _
    rw [or_join ha]
  simp [execOp, eqGuard, hx, hy, binOp, h]
theorem addW {t ty' : TypeId} {x y : Operand} {a b : Int} (hx : ρ.ev x = .int .i64 a) (hy : ρ.ev y = .int .i64 b) : Step P (.binOp .add t x y ty') ty ρ w (.int .i64 (w64 (a + b))) w := Step.add hx hy (wrap_w64 _)
end Step
end Tp
namespace Tp
open Go
theorem Step.shr32 {P : Program} {ρ : Env} {w : World} {ty : TypeId} {t ty' : TypeId} {x y : Operand} {j : IntKind} {a : Int} (hx : ρ.ev x = .int .i64 a) (hy : ρ.ev y = .int j 32) : Step P (.binOp .shr t x y ty') ty ρ w (.int .i64 (a / 4294967296)) w := by
  have h := Step.shr (P := P) (w := w) (ty := ty) (t := t) (ty' := ty') hx hy (by decide)
  have e : shrI .i64 a 32 = a / 4294967296 := by simp [shrI, IntKind.bits]
  rwa [e] at h
end Tp
