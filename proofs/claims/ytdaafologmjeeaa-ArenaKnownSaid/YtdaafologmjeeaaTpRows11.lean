/- The readings of the arena's types. -/
import Derived.Test.YtdaafologmjeeaaTpTrod
import Derived.Test.YtdaafologmjeeaaTpLaw11
import Derived.Test.YtdaafologmjeeaaChecked
set_option linter.all false
namespace Go.Proofs
open Go Tp
theorem Try.us3 : Try.prog.underlying 3 = some (.int .i64) := by kernel_rfl
theorem Try.cs3 : Try.prog.cellsOf 3 = 1 := by kernel_rfl
theorem Try.us4 : Try.prog.underlying 4 = some (.bool) := by kernel_rfl
theorem Try.cs4 : Try.prog.cellsOf 4 = 1 := by kernel_rfl
theorem Try.us9 : Try.prog.underlying 9 = some (.string) := by kernel_rfl
theorem Try.cs9 : Try.prog.cellsOf 9 = 1 := by kernel_rfl
theorem Try.us22 : Try.prog.underlying 22 = some (.slice 3) := by kernel_rfl
theorem Try.cs22 : Try.prog.cellsOf 22 = 1 := by kernel_rfl
theorem Try.us26 : Try.prog.underlying 26 = some (.slice 29) := by kernel_rfl
theorem Try.cs26 : Try.prog.cellsOf 26 = 1 := by kernel_rfl
theorem Try.us29 : Try.prog.underlying 29 = some (.struct #[⟨ "At", 3, 0, false, "", "", 0⟩, ⟨ "Turn", 3, 1, false, "", "", 8⟩]) := by kernel_rfl
theorem Try.cs29 : Try.prog.cellsOf 29 = 2 := by kernel_rfl
theorem Try.us34 : Try.prog.underlying 34 = some (.slice 9) := by kernel_rfl
theorem Try.cs34 : Try.prog.cellsOf 34 = 1 := by kernel_rfl
theorem Try.us36 : Try.prog.underlying 36 = some (.struct #[⟨ "Leaf", 4, 0, false, "", "", 0⟩, ⟨ "Keys", 34, 1, false, "", "", 8⟩, ⟨ "Kids", 26, 2, false, "", "", 32⟩, ⟨ "Vals", 22, 3, false, "", "", 56⟩]) := by kernel_rfl
theorem Try.cs36 : Try.prog.cellsOf 36 = 4 := by kernel_rfl
theorem Try.us43 : Try.prog.underlying 43 = some (.slice 51) := by kernel_rfl
theorem Try.cs43 : Try.prog.cellsOf 43 = 1 := by kernel_rfl
theorem Try.us51 : Try.prog.underlying 51 = some (.struct #[⟨ "Do", 3, 0, false, "", "", 0⟩, ⟨ "Node", 36, 1, false, "", "", 8⟩, ⟨ "Handles", 26, 5, false, "", "", 88⟩]) := by kernel_rfl
theorem Try.cs51 : Try.prog.cellsOf 51 = 6 := by kernel_rfl
end Go.Proofs
namespace Tp
open Go Go.Proofs
theorem rd_int : Reads Try.prog 3 (Ty.flat 1 intE intE_len) := fun H enc w fuel cs x h => by
  obtain ⟨a, e, _⟩ := DataW.trod_int Try.us3 h
  exact ⟨a, e⟩
theorem rd_str : Reads Try.prog 9 (Ty.flat 1 strE strE_len) := fun H enc w fuel cs x h => by
  obtain ⟨a, e, _⟩ := DataW.trod_string Try.us9 h
  exact ⟨a, e⟩
theorem rd_handle : Reads Try.prog 29 (Ty.flat 2 handleE handleE_len) := reads_struct Try.us29 fun H enc w n cs hl hf => by
  obtain ⟨y0, h0⟩ := hf 0 _ rfl
  obtain ⟨y1, h1⟩ := hf 1 _ rfl
  obtain ⟨a, e0, _⟩ := DataW.trod_int Try.us3 h0
  obtain ⟨b, e1, _⟩ := DataW.trod_int Try.us3 h1
  rw [Try.cs29] at hl
  change List.take (Try.prog.cellsOf 3) (List.drop 0 cs) = _ at e0
  change List.take (Try.prog.cellsOf 3) (List.drop 1 cs) = _ at e1
  rw [Try.cs3] at e0 e1
  match cs, hl with
  | [c0, c1], _ =>
    simp at e0 e1
    exact ⟨⟨a, b⟩, by rw [e0, e1]; rfl⟩
def NodeT : Ty Nd := ⟨4, fun cs n w => ∃ kv dv vv, cs = [.bool n.leaf, kv, dv, vv] ∧ NodeC kv dv vv n w, fun _ _ _ ⟨_, _, _, h, _⟩ => by rw [h]; rfl⟩
theorem NodeC.stay {kv dv vv : Value} {n : Nd} {w w' : World} (h : NodeC kv dv vv n w) (hs : Stay w w') : NodeC kv dv vv n w' := ⟨h.1.stay hs, h.2.1.stay hs, h.2.2.stay hs⟩
theorem rd_node : Reads Try.prog 36 NodeT := reads_struct Try.us36 fun H enc w n cs hl hf => by
  obtain ⟨y0, h0⟩ := hf 0 _ rfl
  obtain ⟨y1, h1⟩ := hf 1 _ rfl
  obtain ⟨y2, h2⟩ := hf 2 _ rfl
  obtain ⟨y3, h3⟩ := hf 3 _ rfl
  obtain ⟨a, e0, _⟩ := DataW.trod_bool Try.us4 h0
  obtain ⟨kv, ks, e1, r1⟩ := reads_slice Try.us34 Try.cs9 (by decide) rd_str h1
  obtain ⟨dv, ds, e2, r2⟩ := reads_slice Try.us26 Try.cs29 (by decide) rd_handle h2
  obtain ⟨vv, vs, e3, r3⟩ := reads_slice Try.us22 Try.cs3 (by decide) rd_int h3
  rw [Try.cs36] at hl
  change List.take (Try.prog.cellsOf 4) (List.drop 0 cs) = _ at e0
  change List.take (Try.prog.cellsOf 34) (List.drop 1 cs) = _ at e1
  change List.take (Try.prog.cellsOf 26) (List.drop 2 cs) = _ at e2
  change List.take (Try.prog.cellsOf 22) (List.drop 3 cs) = _ at e3
  rw [Try.cs4] at e0
  rw [Try.cs34] at e1
  rw [Try.cs26] at e2
  rw [Try.cs22] at e3
  match cs, hl with
  | [c0, c1, c2, c3], _ =>
    simp at e0 e1 e2 e3
    exact ⟨⟨a, ks, ds, vs⟩, kv, dv, vv, by rw [e0, e1, e2, e3], RepS.flat.1 r1, RepS.flat.1 r2, RepS.flat.1 r3⟩
theorem actT_stays : ActT.Stays := fun cs x w w' ⟨kv, dv, vv, hv, h1, h2, h3⟩ hs => ⟨kv, dv, vv, hv, h1, h2.stay hs, h3.stay hs⟩
theorem rd_act : Reads Try.prog 51 ActT := reads_struct Try.us51 fun H enc w n cs hl hf => by
  obtain ⟨y0, h0⟩ := hf 0 _ rfl
  obtain ⟨y1, h1⟩ := hf 1 _ rfl
  obtain ⟨y2, h2⟩ := hf 2 _ rfl
  obtain ⟨a, e0, _⟩ := DataW.trod_int Try.us3 h0
  obtain ⟨nd, kv, dv, vv, e1, r1⟩ := rd_node _ _ _ _ _ _ h1
  obtain ⟨hv, hs, e2, r2⟩ := reads_slice Try.us26 Try.cs29 (by decide) rd_handle h2
  rw [Try.cs51] at hl
  change List.take (Try.prog.cellsOf 3) (List.drop 0 cs) = _ at e0
  change List.take (Try.prog.cellsOf 36) (List.drop 1 cs) = _ at e1
  change List.take (Try.prog.cellsOf 26) (List.drop 5 cs) = _ at e2
  rw [Try.cs3] at e0
  rw [Try.cs36] at e1
  rw [Try.cs26] at e2
  match cs, hl with
  | [c0, c1, c2, c3, c4, c5], _ =>
    simp at e0 e1 e2
    obtain ⟨e11, e12, e13, e14⟩ := e1
    exact ⟨⟨a, nd, hs⟩, kv, dv, vv, hv, by rw [e0, e11, e12, e13, e14, e2], r1, RepS.flat.1 r2⟩
end Tp
