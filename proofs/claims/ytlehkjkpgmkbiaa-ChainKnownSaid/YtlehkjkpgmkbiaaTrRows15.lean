/- The readings of the chain's types. -/
import Derived.Test.YtlehkjkpgmkbiaaTrRow
import Derived.Test.YtlehkjkpgmkbiaaTrChain
import Derived.OpenShut
import Derived.Test.YtlehkjkpgmkbiaaChecked
set_option linter.all false
namespace Go.Proofs
open Go Tp
theorem Try.us2 : Try.prog.underlying 2 = some (.int .i64) := by kernel_rfl
theorem Try.cs2 : Try.prog.cellsOf 2 = 1 := by kernel_rfl
theorem Try.us4 : Try.prog.underlying 4 = some (.bool) := by kernel_rfl
theorem Try.cs4 : Try.prog.cellsOf 4 = 1 := by kernel_rfl
theorem Try.us5 : Try.prog.underlying 5 = some (.int .u8) := by kernel_rfl
theorem Try.cs5 : Try.prog.cellsOf 5 = 1 := by kernel_rfl
theorem Try.us22 : Try.prog.underlying 22 = some (.slice 34) := by kernel_rfl
theorem Try.cs22 : Try.prog.cellsOf 22 = 1 := by kernel_rfl
theorem Try.us23 : Try.prog.underlying 23 = some (.int .u64) := by kernel_rfl
theorem Try.cs23 : Try.prog.cellsOf 23 = 1 := by kernel_rfl
theorem Try.us32 : Try.prog.underlying 32 = some (.struct #[⟨ "Count", 2, 0, false, "", "", 0⟩, ⟨ "Sum", 2, 1, false, "", "", 8⟩, ⟨ "Min", 2, 2, false, "", "", 16⟩, ⟨ "Max", 2, 3, false, "", "", 24⟩]) := by kernel_rfl
theorem Try.cs32 : Try.prog.cellsOf 32 = 4 := by kernel_rfl
theorem Try.us34 : Try.prog.underlying 34 = some (.struct #[⟨ "Epoch", 23, 0, false, "", "", 0⟩, ⟨ "Dead", 4, 1, false, "", "", 8⟩, ⟨ "Agg", 32, 2, false, "", "", 16⟩]) := by kernel_rfl
theorem Try.cs34 : Try.prog.cellsOf 34 = 6 := by kernel_rfl
theorem Try.us59 : Try.prog.underlying 59 = some (.slice 61) := by kernel_rfl
theorem Try.cs59 : Try.prog.cellsOf 59 = 1 := by kernel_rfl
theorem Try.us61 : Try.prog.underlying 61 = some (.struct #[⟨ "Do", 5, 0, false, "", "", 0⟩, ⟨ "V", 34, 1, false, "", "", 8⟩, ⟨ "Floor", 23, 7, false, "", "", 56⟩]) := by kernel_rfl
theorem Try.cs61 : Try.prog.cellsOf 61 = 8 := by kernel_rfl
end Go.Proofs
namespace Tp
open Go Go.Proofs
theorem rd_agg_cells (cs : List Value) (h : cs.length = 4) : ∃ c0 c1 c2 c3, cs = [c0, c1, c2, c3] := match cs, h with
  | [c0, c1, c2, c3], _ => ⟨c0, c1, c2, c3, rfl⟩
theorem rd_agg : Reads Try.prog 32 (Ty.flat 4 aggE aggE_len) := reads_struct Try.us32 fun H enc w n cs hl hf => by
  obtain ⟨y0, h0⟩ := hf 0 _ rfl
  obtain ⟨y1, h1⟩ := hf 1 _ rfl
  obtain ⟨y2, h2⟩ := hf 2 _ rfl
  obtain ⟨y3, h3⟩ := hf 3 _ rfl
  obtain ⟨a0, e0, _, w0⟩ := DataW.trod_int Try.us2 h0
  have b0 := Go.bounds_i64 w0
  obtain ⟨a1, e1, _, w1⟩ := DataW.trod_int Try.us2 h1
  have b1 := Go.bounds_i64 w1
  obtain ⟨a2, e2, _, w2⟩ := DataW.trod_int Try.us2 h2
  have b2 := Go.bounds_i64 w2
  obtain ⟨a3, e3, _, w3⟩ := DataW.trod_int Try.us2 h3
  have b3 := Go.bounds_i64 w3
  rw [Try.cs32] at hl
  change List.take (Try.prog.cellsOf 2) (List.drop 0 cs) = _ at e0
  rw [Try.cs2] at e0
  change List.take (Try.prog.cellsOf 2) (List.drop 1 cs) = _ at e1
  rw [Try.cs2] at e1
  change List.take (Try.prog.cellsOf 2) (List.drop 2 cs) = _ at e2
  rw [Try.cs2] at e2
  change List.take (Try.prog.cellsOf 2) (List.drop 3 cs) = _ at e3
  rw [Try.cs2] at e3
  obtain ⟨c0, c1, c2, c3, rfl⟩ := rd_agg_cells cs hl
  simp [aggE] at e0 e1 e2 e3
  refine ⟨⟨a0, a1, a2, a3⟩, ?_⟩
  · change _ = aggE _
    simp [aggE, e0, e1, e2, e3]
theorem rd_ver_cells (cs : List Value) (h : cs.length = 6) : ∃ c0 c1 c2 c3 c4 c5, cs = [c0, c1, c2, c3, c4, c5] := match cs, h with
  | [c0, c1, c2, c3, c4, c5], _ => ⟨c0, c1, c2, c3, c4, c5, rfl⟩
theorem rd_ver : Reads Try.prog 34 ((Ty.flat 6 verE verE_len).wf (fun x : Ver => 0 ≤ x.epoch ∧ x.epoch < 18446744073709551616)) := reads_struct Try.us34 fun H enc w n cs hl hf => by
  obtain ⟨y0, h0⟩ := hf 0 _ rfl
  obtain ⟨y1, h1⟩ := hf 1 _ rfl
  obtain ⟨y2, h2⟩ := hf 2 _ rfl
  obtain ⟨a0, e0, _, w0⟩ := DataW.trod_int Try.us23 h0
  have b0 := Go.bounds_u64 w0
  obtain ⟨a1, e1, _⟩ := DataW.trod_bool Try.us4 h1
  obtain ⟨a2, e2⟩ := rd_agg _ _ _ _ _ _ h2
  rw [Try.cs34] at hl
  change List.take (Try.prog.cellsOf 23) (List.drop 0 cs) = _ at e0
  rw [Try.cs23] at e0
  change List.take (Try.prog.cellsOf 4) (List.drop 1 cs) = _ at e1
  rw [Try.cs4] at e1
  change List.take (Try.prog.cellsOf 32) (List.drop 2 cs) = _ at e2
  rw [Try.cs32] at e2
  obtain ⟨c0, c1, c2, c3, c4, c5, rfl⟩ := rd_ver_cells cs hl
  simp [verE, aggE] at e0 e1 e2
  refine ⟨⟨a0, a1, a2⟩, ?_, ?_⟩
  · change _ = verE _
    simp [verE, aggE, e0, e1, e2]
  · first | omega | (refine ⟨?_, ?_⟩ <;> first | omega | assumption) | (simp only at *; omega)
theorem rd_cact_cells (cs : List Value) (h : cs.length = 8) : ∃ c0 c1 c2 c3 c4 c5 c6 c7, cs = [c0, c1, c2, c3, c4, c5, c6, c7] := match cs, h with
  | [c0, c1, c2, c3, c4, c5, c6, c7], _ => ⟨c0, c1, c2, c3, c4, c5, c6, c7, rfl⟩
theorem rd_cact : Reads Try.prog 61 (Ty.flat 8 chActE chActE_len) := reads_struct Try.us61 fun H enc w n cs hl hf => by
  obtain ⟨y0, h0⟩ := hf 0 _ rfl
  obtain ⟨y1, h1⟩ := hf 1 _ rfl
  obtain ⟨y2, h2⟩ := hf 2 _ rfl
  obtain ⟨a0, e0, _, w0⟩ := DataW.trod_int Try.us5 h0
  have b0 := Go.bounds_u8 w0
  obtain ⟨a1, e1, o1⟩ := rd_ver _ _ _ _ _ _ h1
  obtain ⟨a2, e2, _, w2⟩ := DataW.trod_int Try.us23 h2
  have b2 := Go.bounds_u64 w2
  rw [Try.cs61] at hl
  change List.take (Try.prog.cellsOf 5) (List.drop 0 cs) = _ at e0
  rw [Try.cs5] at e0
  change List.take (Try.prog.cellsOf 34) (List.drop 1 cs) = _ at e1
  rw [Try.cs34] at e1
  change List.take (Try.prog.cellsOf 23) (List.drop 7 cs) = _ at e2
  rw [Try.cs23] at e2
  obtain ⟨c0, c1, c2, c3, c4, c5, c6, c7, rfl⟩ := rd_cact_cells cs hl
  simp [chActE, verE] at e0 e1 e2
  refine ⟨⟨a0, a1, a2⟩, ?_⟩
  · change _ = chActE _
    simp [chActE, verE, e0, e1, e2]
end Tp
