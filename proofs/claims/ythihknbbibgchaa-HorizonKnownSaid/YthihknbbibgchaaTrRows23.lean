/- The readings of the types of pins and acts. -/
import Derived.Test.YthihknbbibgchaaTrRow
import Derived.Test.YthihknbbibgchaaTrHorM
import Derived.OpenShut
import Derived.Test.YthihknbbibgchaaChecked
set_option linter.all false
set_option maxRecDepth 100000
namespace Go.Proofs
open Go Tp
theorem Try.us3 : Try.prog.underlying 3 = some (.int .i64) := by kernel_rfl
theorem Try.cs3 : Try.prog.cellsOf 3 = 1 := by kernel_rfl
theorem Try.us5 : Try.prog.underlying 5 = some (.int .u8) := by kernel_rfl
theorem Try.cs5 : Try.prog.cellsOf 5 = 1 := by kernel_rfl
theorem Try.us22 : Try.prog.underlying 22 = some (.slice 37) := by kernel_rfl
theorem Try.us23 : Try.prog.underlying 23 = some (.int .u64) := by kernel_rfl
theorem Try.cs23 : Try.prog.cellsOf 23 = 1 := by kernel_rfl
theorem Try.us33 : Try.prog.underlying 33 = some (.slice 35) := by kernel_rfl
theorem Try.cs33 : Try.prog.cellsOf 33 = 1 := by kernel_rfl
theorem Try.us35 : Try.prog.underlying 35 = some (.struct #[⟨ "Sort", 5, 0, false, "", "", 0⟩, ⟨ "Id", 23, 1, false, "", "", 8⟩, ⟨ "Epoch", 23, 2, false, "", "", 16⟩]) := by kernel_rfl
theorem Try.cs35 : Try.prog.cellsOf 35 = 3 := by kernel_rfl
theorem Try.us37 : Try.prog.underlying 37 = some (.struct #[⟨ "Do", 3, 0, false, "", "", 0⟩, ⟨ "L", 33, 1, false, "", "", 8⟩, ⟨ "P", 35, 2, false, "", "", 32⟩, ⟨ "Now", 23, 5, false, "", "", 56⟩]) := by kernel_rfl
theorem Try.cs37 : Try.prog.cellsOf 37 = 6 := by kernel_rfl
end Go.Proofs
namespace Tp
open Go Go.Proofs
theorem rd_pin_cells (cs : List Value) (h : cs.length = 3) : ∃ c0 c1 c2, cs = [c0, c1, c2] := match cs, h with
  | [c0, c1, c2], _ => ⟨c0, c1, c2, rfl⟩
theorem rd_pin : Reads Try.prog 35 ((Ty.flat 3 pinE pinE_len).wf (fun x : PinH => 0 ≤ x.epoch)) := reads_struct Try.us35 fun H enc w n cs hl hf => by
  obtain ⟨y0, h0⟩ := hf 0 _ rfl
  obtain ⟨y1, h1⟩ := hf 1 _ rfl
  obtain ⟨y2, h2⟩ := hf 2 _ rfl
  obtain ⟨a0, e0, _, w0⟩ := DataW.trod_int Try.us5 h0
  have b0 := Go.bounds_u8 w0
  obtain ⟨a1, e1, _, w1⟩ := DataW.trod_int Try.us23 h1
  have b1 := Go.bounds_u64 w1
  obtain ⟨a2, e2, _, w2⟩ := DataW.trod_int Try.us23 h2
  have b2 := Go.bounds_u64 w2
  rw [Try.cs35] at hl
  change List.take (Try.prog.cellsOf 5) (List.drop 0 cs) = _ at e0
  rw [Try.cs5] at e0
  change List.take (Try.prog.cellsOf 23) (List.drop 1 cs) = _ at e1
  rw [Try.cs23] at e1
  change List.take (Try.prog.cellsOf 23) (List.drop 2 cs) = _ at e2
  rw [Try.cs23] at e2
  obtain ⟨c0, c1, c2, rfl⟩ := rd_pin_cells cs hl
  simp [pinE] at e0 e1 e2
  refine ⟨⟨a0, a1, a2⟩, ?_, ?_⟩
  · change _ = pinE _
    simp [pinE, e0, e1, e2]
  · first | omega | (refine ⟨?_, ?_⟩ <;> first | omega | assumption) | (simp only at *; omega)
theorem hactT_stays : HActT.Stays := fun cs x w w' ⟨v, hv, h⟩ hs => ⟨v, hv, h.stay hs⟩
theorem rd_hact : Reads Try.prog 37 (HActT.wf (fun x : HAct => 0 ≤ x.now ∧ 0 ≤ x.p.epoch)) := reads_struct Try.us37 fun H enc w n cs hl hf => by
  obtain ⟨y0, h0⟩ := hf 0 _ rfl
  obtain ⟨y1, h1⟩ := hf 1 _ rfl
  obtain ⟨y2, h2⟩ := hf 2 _ rfl
  obtain ⟨y3, h3⟩ := hf 3 _ rfl
  obtain ⟨a, e0, _⟩ := DataW.trod_int Try.us3 h0
  obtain ⟨lv, ls, e1, r1⟩ := reads_slice Try.us33 Try.cs35 (by decide) rd_pin h1
  obtain ⟨p, e2, o2⟩ := rd_pin _ _ _ _ _ _ h2
  obtain ⟨nw, e3, _, w3⟩ := DataW.trod_int Try.us23 h3
  have b3 := Go.bounds_u64 w3
  rw [Try.cs37] at hl
  change List.take (Try.prog.cellsOf 3) (List.drop 0 cs) = _ at e0
  change List.take (Try.prog.cellsOf 33) (List.drop 1 cs) = _ at e1
  change List.take (Try.prog.cellsOf 35) (List.drop 2 cs) = _ at e2
  change List.take (Try.prog.cellsOf 23) (List.drop 5 cs) = _ at e3
  rw [Try.cs3] at e0
  rw [Try.cs33] at e1
  rw [Try.cs35] at e2
  rw [Try.cs23] at e3
  match cs, hl with
  | [c0, c1, c2, c3, c4, c5], _ =>
    simp [pinE] at e0 e1 e2 e3
    obtain ⟨e21, e22, e23⟩ := e2
    exact ⟨⟨a, ls, p, nw⟩, ⟨lv, by rw [e0, e1, e21, e22, e23, e3], (RepS.flat.1 r1.wf.1)⟩, b3.1, o2⟩
end Tp
