/- Proved: the law SessionOf returns true for every input, and turns nothing that it is handed: Rows.SessionOfSaid. No condition. -/
import Derived.Test.YthihknbbibgchaaTrRows17
import Derived.Test.YthihknbbibgchaaTrClose
import Derived.Test.YthihknbbibgchaaTrRow
import Derived.Test.YthihknbbibgchaaTrT11
import Derived.Test.YthihknbbibgchaaRows
import Derived.WalkKit
set_option linter.all false
set_option maxRecDepth 100000
namespace Go.Proofs.Ythihknbbibgchaa.sessionOf
open Go Go.Proofs Go.ChangeShapes Go.WideShapes Go.ChangeAt Go.RowKit Tp
theorem own : ownKnob Try.prog.godebug = none := by kernel_rfl
theorem laid : laidOutB Try.prog = true := by kernel_rfl
theorem rows : Try.f8.params.toList.all (fun t => Try.prog.readableRec t && decide (t < Try.prog.types.size)) = true := by kernel_rfl
theorem contract (H : Type) (enc : TypeId × Value → H) (W : World) (base : Nat) (args : Array Value) (ds gs : List (DataW H)) (before : List MemPlace)
    (hval : ∀ (j : Nat) t v, Try.f8.params[j]? = some t → args[j]? = some v → Value.okWide Try.prog W .any base t v)
    (hW : DataW.Whole enc Try.prog Try.f8.params.toList Rows.sessionOfSpec.vars false W args.toList ds gs before) :
    Calls Try.prog 8 args W fun e W' => ∃ v, e = .returned v ∧ Rows.sessionOfSpec.post enc Try.prog Try.f8 false true false false W args v W' := by
  have hW' := hW
  obtain ⟨p, q, hA, hV, rfl, hfz, hnd⟩ := hW
  obtain ⟨rfl, rfl⟩ := trodVars_none hV
  rw [Try.params8] at hA hval
  obtain ⟨v0, v1, v2, v3, d0, d1, d2, d3, p0, p1, p2, p3, rfl, rfl, rfl, h0, h1, h2, h3⟩ := Tp.trodAll_four hA
  obtain ⟨gap, rfl, -, -, hw_gap⟩ := open_int Try.us2 (hval 0 2 v0 rfl rfl) h0
  obtain ⟨t, rfl, -, -, hw_t⟩ := open_int Try.us2 (hval 1 2 v1 rfl rfl) h1
  obtain ⟨xs2, hx2⟩ := open_slice (T := ((Ty.flat 1 intE intE_len).wf in64)) Try.us70 Try.cs2 (by decide) rd_i64 (hval 2 70 v2 rfl rfl) h2
  obtain ⟨xs3, hx3⟩ := open_slice (T := ((Ty.flat 2 spanE spanE_len).wf inSp)) Try.us58 Try.cs65 (by decide) rd_span (hval 3 58 v3 rfl rfl) h3
  refine Calls.mono (law17_of gap t v2 xs2 v3 xs3 hx3.wf.2 (by have := Go.bounds_i64 hw_gap; unfold in64; omega) (Tp.Mem.law _ (Facts.cons (Sh.stay fun _ hs => (RepS.flat.1 hx2.wf.1).stay hs) (Facts.cons (Sh.stay fun _ hs => (RepS.flat.1 hx3.wf.1).stay hs) trivial)))) fun e W' ⟨v, he, hv, M⟩ => ?_
  subst he
  subst hv
  refine ⟨_, rfl, post_old laid (fun t ht => ?_) (show Try.prog.underlying 4 = some .bool by kernel_rfl) (by kernel_rfl) rfl rfl rfl rfl hW' M.mod⟩
  have := List.all_eq_true.1 rows t ht
  simpa using this
set_option maxRecDepth 100000 in
theorem lifted (os : Os) (started : os.Started) (H : Type) (enc : TypeId × Value → H) :
    ReturnsInHanded {} Try.checked os 8 .any (Rows.sessionOfSpec.pre6 enc Try.prog Try.f8 [] false) (Rows.sessionOfSpec.post enc Try.prog Try.f8 false true false false) := by
  refine returnsInHanded_of_change (C := Try.checked) (s := Rows.sessionOfSpec) own started (by kernel_rfl) Try.func8
    (ChangeSpec.witness6 (enc := enc) (C := Try.checked) (s := Rows.sessionOfSpec) (conds := []) false ⟨#[], #[.int .i64 0, .int .i64 0, .slice none 0 0, .slice none 0 0], []⟩ 8 (by kernel_rfl) (by kernel_rfl) (by kernel_rfl) (by kernel_rfl) rfl) ?_
  intro W base args ds gs before hval hW _ _
  exact contract H enc W base args ds gs before hval hW
theorem proved : Rows.SessionOfSaid :=
  OpenClaim.holds_of_wide 8 Try.f8 rfl rfl rfl rfl rfl rfl rfl ⟨rfl, rfl, rfl, rfl, rfl⟩ rfl rfl rfl rfl rfl (by kernel_rfl) Try.func8 (by kernel_rfl)
    (of_decide_eq_true (by kernel_rfl)) (by unfold Func.isWrapper; first | (rw [if_pos (by decide +kernel)]; kernel_rfl) | (rw [if_neg (by decide +kernel)]; exact ⟨rfl, rfl⟩))
    (fun os started H enc _ => lifted os started H enc)
end Go.Proofs.Ythihknbbibgchaa.sessionOf
