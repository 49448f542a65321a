/- The readings of the types of times and spans. -/
import Derived.Test.YthihknbbibgchaaTrRow
import Derived.Test.YthihknbbibgchaaTrSesJ
import Derived.OpenShut
import Derived.Test.YthihknbbibgchaaChecked
set_option linter.all false
namespace Go.Proofs
open Go Tp
theorem Try.us2 : Try.prog.underlying 2 = some (.int .i64) := by kernel_rfl
theorem Try.cs2 : Try.prog.cellsOf 2 = 1 := by kernel_rfl
theorem Try.us58 : Try.prog.underlying 58 = some (.slice 65) := by kernel_rfl
theorem Try.us65 : Try.prog.underlying 65 = some (.struct #[⟨ "Start", 2, 0, false, "", "", 0⟩, ⟨ "End", 2, 1, false, "", "", 8⟩]) := by kernel_rfl
theorem Try.cs65 : Try.prog.cellsOf 65 = 2 := by kernel_rfl
theorem Try.us70 : Try.prog.underlying 70 = some (.slice 2) := by kernel_rfl
end Go.Proofs
namespace Tp
open Go Go.Proofs
def inSp (s : Span) : Prop := in64 s.start ∧ in64 s.fin
theorem rd_i64 : Reads Try.prog 2 ((Ty.flat 1 intE intE_len).wf in64) := fun _ _ _ _ _ _ h => by
  obtain ⟨a, e, _, w⟩ := DataW.trod_int Try.us2 h
  have := Go.bounds_i64 w
  exact ⟨a, e, by unfold in64; omega⟩
theorem rd_span_cells (cs : List Value) (h : cs.length = 2) : ∃ c0 c1, cs = [c0, c1] := match cs, h with
  | [c0, c1], _ => ⟨c0, c1, rfl⟩
theorem rd_span : Reads Try.prog 65 ((Ty.flat 2 spanE spanE_len).wf inSp) := reads_struct Try.us65 fun H enc w n cs hl hf => by
  obtain ⟨y0, h0⟩ := hf 0 _ rfl
  obtain ⟨y1, h1⟩ := hf 1 _ rfl
  obtain ⟨a0, e0, _, w0⟩ := DataW.trod_int Try.us2 h0
  have b0 := Go.bounds_i64 w0
  obtain ⟨a1, e1, _, w1⟩ := DataW.trod_int Try.us2 h1
  have b1 := Go.bounds_i64 w1
  rw [Try.cs65] at hl
  change List.take (Try.prog.cellsOf 2) (List.drop 0 cs) = _ at e0
  rw [Try.cs2] at e0
  change List.take (Try.prog.cellsOf 2) (List.drop 1 cs) = _ at e1
  rw [Try.cs2] at e1
  obtain ⟨c0, c1, rfl⟩ := rd_span_cells cs hl
  simp [spanE] at e0 e1
  refine ⟨⟨a0, a1⟩, ?_, ?_⟩
  · change _ = spanE _
    simp [spanE, e0, e1]
  · unfold inSp in64; simp only; omega
end Tp
