/- The readings of the types of rows. -/
import Derived.Test.YtlehkjkpgmkbiaaTrRow
import Derived.Test.YtlehkjkpgmkbiaaTrAggP
import Derived.OpenShut
import Derived.Test.YtlehkjkpgmkbiaaChecked
set_option linter.all false
namespace Go.Proofs
open Go Tp
theorem Try.us2 : Try.prog.underlying 2 = some (.int .i64) := by kernel_rfl
theorem Try.cs2 : Try.prog.cellsOf 2 = 1 := by kernel_rfl
theorem Try.us3 : Try.prog.underlying 3 = some (.int .i64) := by kernel_rfl
theorem Try.us9 : Try.prog.underlying 9 = some (.string) := by kernel_rfl
theorem Try.cs9 : Try.prog.cellsOf 9 = 1 := by kernel_rfl
theorem Try.us32 : Try.prog.underlying 32 = some (.struct #[⟨ "Count", 2, 0, false, "", "", 0⟩, ⟨ "Sum", 2, 1, false, "", "", 8⟩, ⟨ "Min", 2, 2, false, "", "", 16⟩, ⟨ "Max", 2, 3, false, "", "", 24⟩]) := by kernel_rfl
theorem Try.cs32 : Try.prog.cellsOf 32 = 4 := by kernel_rfl
theorem Try.us105 : Try.prog.underlying 105 = some (.slice 115) := by kernel_rfl
theorem Try.us113 : Try.prog.underlying 113 = some (.struct #[⟨ "Key", 9, 0, false, "", "", 0⟩, ⟨ "Start", 2, 1, false, "", "", 16⟩, ⟨ "End", 2, 2, false, "", "", 24⟩]) := by kernel_rfl
theorem Try.cs113 : Try.prog.cellsOf 113 = 3 := by kernel_rfl
theorem Try.us115 : Try.prog.underlying 115 = some (.struct #[⟨ "Pane", 113, 0, false, "", "", 0⟩, ⟨ "Agg", 32, 3, false, "", "", 32⟩]) := by kernel_rfl
theorem Try.cs115 : Try.prog.cellsOf 115 = 7 := by kernel_rfl
theorem Try.us121 : Try.prog.underlying 121 = some (.slice 2) := by kernel_rfl
end Go.Proofs
namespace Tp
open Go Go.Proofs
theorem rd_i64 : Reads Try.prog 2 ((Ty.flat 1 intE intE_len).wf in64) := fun _ _ _ _ _ _ h => by
  obtain ⟨a, e, _, w⟩ := DataW.trod_int Try.us2 h
  have := Go.bounds_i64 w
  exact ⟨a, e, by unfold in64; omega⟩
theorem rd_agg_cells (cs : List Value) (h : cs.length = 4) : ∃ c0 c1 c2 c3, cs = [c0, c1, c2, c3] := match cs, h with
  | [c0, c1, c2, c3], _ => ⟨c0, c1, c2, c3, rfl⟩
theorem rd_agg : Reads Try.prog 32 (Ty.flat 4 aggE aggE_len) := reads_struct Try.us32 fun H enc w n cs hl hf => by
  obtain ⟨y0, h0⟩ := hf 0 _ rfl
  obtain ⟨y1, h1⟩ := hf 1 _ rfl
  obtain ⟨y2, h2⟩ := hf 2 _ rfl
  obtain ⟨y3, h3⟩ := hf 3 _ rfl
  obtain ⟨a0, e0, _, w0⟩ := DataW.trod_int Try.us2 h0
  have b0 := Go.bounds_i64 w0
  obtain ⟨a1, e1, _, w1⟩ := DataW.trod_int Try.us2 h1
  have b1 := Go.bounds_i64 w1
  obtain ⟨a2, e2, _, w2⟩ := DataW.trod_int Try.us2 h2
  have b2 := Go.bounds_i64 w2
  obtain ⟨a3, e3, _, w3⟩ := DataW.trod_int Try.us2 h3
  have b3 := Go.bounds_i64 w3
  rw [Try.cs32] at hl
  change List.take (Try.prog.cellsOf 2) (List.drop 0 cs) = _ at e0
  rw [Try.cs2] at e0
  change List.take (Try.prog.cellsOf 2) (List.drop 1 cs) = _ at e1
  rw [Try.cs2] at e1
  change List.take (Try.prog.cellsOf 2) (List.drop 2 cs) = _ at e2
  rw [Try.cs2] at e2
  change List.take (Try.prog.cellsOf 2) (List.drop 3 cs) = _ at e3
  rw [Try.cs2] at e3
  obtain ⟨c0, c1, c2, c3, rfl⟩ := rd_agg_cells cs hl
  simp [aggE] at e0 e1 e2 e3
  refine ⟨⟨a0, a1, a2, a3⟩, ?_⟩
  · change _ = aggE _
    simp [aggE, e0, e1, e2, e3]
theorem rd_pane_cells (cs : List Value) (h : cs.length = 3) : ∃ c0 c1 c2, cs = [c0, c1, c2] := match cs, h with
  | [c0, c1, c2], _ => ⟨c0, c1, c2, rfl⟩
theorem rd_pane : Reads Try.prog 113 (Ty.flat 3 paneE paneE_len) := reads_struct Try.us113 fun H enc w n cs hl hf => by
  obtain ⟨y0, h0⟩ := hf 0 _ rfl
  obtain ⟨y1, h1⟩ := hf 1 _ rfl
  obtain ⟨y2, h2⟩ := hf 2 _ rfl
  obtain ⟨a0, e0, _⟩ := DataW.trod_string Try.us9 h0
  obtain ⟨a1, e1, _, w1⟩ := DataW.trod_int Try.us2 h1
  have b1 := Go.bounds_i64 w1
  obtain ⟨a2, e2, _, w2⟩ := DataW.trod_int Try.us2 h2
  have b2 := Go.bounds_i64 w2
  rw [Try.cs113] at hl
  change List.take (Try.prog.cellsOf 9) (List.drop 0 cs) = _ at e0
  rw [Try.cs9] at e0
  change List.take (Try.prog.cellsOf 2) (List.drop 1 cs) = _ at e1
  rw [Try.cs2] at e1
  change List.take (Try.prog.cellsOf 2) (List.drop 2 cs) = _ at e2
  rw [Try.cs2] at e2
  obtain ⟨c0, c1, c2, rfl⟩ := rd_pane_cells cs hl
  simp [paneE] at e0 e1 e2
  refine ⟨⟨a0, a1, a2⟩, ?_⟩
  · change _ = paneE _
    simp [paneE, e0, e1, e2]
theorem rd_row_cells (cs : List Value) (h : cs.length = 7) : ∃ c0 c1 c2 c3 c4 c5 c6, cs = [c0, c1, c2, c3, c4, c5, c6] := match cs, h with
  | [c0, c1, c2, c3, c4, c5, c6], _ => ⟨c0, c1, c2, c3, c4, c5, c6, rfl⟩
theorem rd_row : Reads Try.prog 115 (Ty.flat 7 rowE rowE_len) := reads_struct Try.us115 fun H enc w n cs hl hf => by
  obtain ⟨y0, h0⟩ := hf 0 _ rfl
  obtain ⟨y1, h1⟩ := hf 1 _ rfl
  obtain ⟨a0, e0⟩ := rd_pane _ _ _ _ _ _ h0
  obtain ⟨a1, e1⟩ := rd_agg _ _ _ _ _ _ h1
  rw [Try.cs115] at hl
  change List.take (Try.prog.cellsOf 113) (List.drop 0 cs) = _ at e0
  rw [Try.cs113] at e0
  change List.take (Try.prog.cellsOf 32) (List.drop 3 cs) = _ at e1
  rw [Try.cs32] at e1
  obtain ⟨c0, c1, c2, c3, c4, c5, c6, rfl⟩ := rd_row_cells cs hl
  simp [rowE, paneE, aggE] at e0 e1
  refine ⟨⟨a0, a1⟩, ?_⟩
  · change _ = rowE _
    simp [rowE, paneE, aggE, e0, e1]
end Tp
