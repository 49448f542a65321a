/- The readings of the leases' types. -/
import Derived.Test.YtlehkjkpgmkbiaaTrRow
import Derived.Test.YtlehkjkpgmkbiaaTrLease2
import Derived.OpenShut
import Derived.Test.YtlehkjkpgmkbiaaChecked
set_option linter.all false
namespace Go.Proofs
open Go Tp
theorem Try.us3 : Try.prog.underlying 3 = some (.int .i64) := by kernel_rfl
theorem Try.cs3 : Try.prog.cellsOf 3 = 1 := by kernel_rfl
theorem Try.us4 : Try.prog.underlying 4 = some (.bool) := by kernel_rfl
theorem Try.cs4 : Try.prog.cellsOf 4 = 1 := by kernel_rfl
theorem Try.us23 : Try.prog.underlying 23 = some (.int .u64) := by kernel_rfl
theorem Try.cs23 : Try.prog.cellsOf 23 = 1 := by kernel_rfl
theorem Try.us73 : Try.prog.underlying 73 = some (.slice 75) := by kernel_rfl
theorem Try.us75 : Try.prog.underlying 75 = some (.struct #[⟨ "Do", 3, 0, false, "", "", 0⟩, ⟨ "Owner", 3, 1, false, "", "", 8⟩, ⟨ "Id", 23, 2, false, "", "", 16⟩, ⟨ "N", 23, 3, false, "", "", 24⟩, ⟨ "Until", 23, 4, false, "", "", 32⟩, ⟨ "Cursor", 4, 5, false, "", "", 40⟩]) := by kernel_rfl
theorem Try.cs75 : Try.prog.cellsOf 75 = 6 := by kernel_rfl
end Go.Proofs
namespace Tp
open Go Go.Proofs
theorem rd_lact_cells (cs : List Value) (h : cs.length = 6) : ∃ c0 c1 c2 c3 c4 c5, cs = [c0, c1, c2, c3, c4, c5] := match cs, h with
  | [c0, c1, c2, c3, c4, c5], _ => ⟨c0, c1, c2, c3, c4, c5, rfl⟩
theorem rd_lact : Reads Try.prog 75 (Ty.flat 6 lactE lactE_len) := reads_struct Try.us75 fun H enc w n cs hl hf => by
  obtain ⟨y0, h0⟩ := hf 0 _ rfl
  obtain ⟨y1, h1⟩ := hf 1 _ rfl
  obtain ⟨y2, h2⟩ := hf 2 _ rfl
  obtain ⟨y3, h3⟩ := hf 3 _ rfl
  obtain ⟨y4, h4⟩ := hf 4 _ rfl
  obtain ⟨y5, h5⟩ := hf 5 _ rfl
  obtain ⟨a0, e0, _, w0⟩ := DataW.trod_int Try.us3 h0
  have b0 := Go.bounds_i64 w0
  obtain ⟨a1, e1, _, w1⟩ := DataW.trod_int Try.us3 h1
  have b1 := Go.bounds_i64 w1
  obtain ⟨a2, e2, _, w2⟩ := DataW.trod_int Try.us23 h2
  have b2 := Go.bounds_u64 w2
  obtain ⟨a3, e3, _, w3⟩ := DataW.trod_int Try.us23 h3
  have b3 := Go.bounds_u64 w3
  obtain ⟨a4, e4, _, w4⟩ := DataW.trod_int Try.us23 h4
  have b4 := Go.bounds_u64 w4
  obtain ⟨a5, e5, _⟩ := DataW.trod_bool Try.us4 h5
  rw [Try.cs75] at hl
  change List.take (Try.prog.cellsOf 3) (List.drop 0 cs) = _ at e0
  rw [Try.cs3] at e0
  change List.take (Try.prog.cellsOf 3) (List.drop 1 cs) = _ at e1
  rw [Try.cs3] at e1
  change List.take (Try.prog.cellsOf 23) (List.drop 2 cs) = _ at e2
  rw [Try.cs23] at e2
  change List.take (Try.prog.cellsOf 23) (List.drop 3 cs) = _ at e3
  rw [Try.cs23] at e3
  change List.take (Try.prog.cellsOf 23) (List.drop 4 cs) = _ at e4
  rw [Try.cs23] at e4
  change List.take (Try.prog.cellsOf 4) (List.drop 5 cs) = _ at e5
  rw [Try.cs4] at e5
  obtain ⟨c0, c1, c2, c3, c4, c5, rfl⟩ := rd_lact_cells cs hl
  simp [lactE] at e0 e1 e2 e3 e4 e5
  refine ⟨⟨a0, a1, a2, a3, a4, a5⟩, ?_⟩
  · change _ = lactE _
    simp [lactE, e0, e1, e2, e3, e4, e5]
end Tp
