/- Proved: the law ScanPlays returns true for every input, and turns nothing that it is handed: Rows.ScanPlaysSaid. No condition. -/
import Derived.Test.YtnlnpfpfggbheaaSp7
import Derived.Test.YtnlnpfpfggbheaaRows
import Derived.WalkKit
set_option linter.all false
set_option maxRecDepth 100000
namespace Go.Proofs.Ytnlnpfpfggbheaa.scanPlays
open Go Go.Proofs Go.ChangeShapes Go.WideShapes Go.ChangeAt Go.RowKit Tp
theorem own : ownKnob Try.prog.godebug = none := by kernel_rfl
theorem laid : laidOutB Try.prog = true := by kernel_rfl
theorem rows : Try.f4.params.toList.all (fun t => Try.prog.readableRec t && decide (t < Try.prog.types.size)) = true := by kernel_rfl
theorem contract (H : Type) (enc : TypeId × Value → H) (W : World) (base : Nat) (args : Array Value) (ds gs : List (DataW H)) (before : List MemPlace)
    (hval : ∀ (j : Nat) t v, Try.f4.params[j]? = some t → args[j]? = some v → Value.okWide Try.prog W .any base t v)
    (hW : DataW.Whole enc Try.prog Try.f4.params.toList Rows.scanPlaysSpec.vars false W args.toList ds gs before) :
    Calls Try.prog 4 args W fun e W' => ∃ v, e = .returned v ∧ Rows.scanPlaysSpec.post enc Try.prog Try.f4 false true false false W args v W' := by
  have hW' := hW
  obtain ⟨p, q, hA, hV, rfl, hfz, hnd⟩ := hW
  obtain ⟨rfl, rfl⟩ := trodVars_none hV
  rw [Try.params4] at hA hval
  obtain ⟨v0, v1, v2, v3, v4, d0, d1, d2, d3, d4, p0, p1, p2, p3, p4, rfl, rfl, rfl, h0, h1, h2, h3, h4⟩ := Tp.trodAll_five hA
  obtain ⟨xs0, hx0⟩ := open_slice (T := (Ty.flat 1 strE strE_len)) Try.us22 Try.cs9 (by decide) rd_str (hval 0 22 v0 rfl rfl) h0
  obtain ⟨f, rfl, -, -, -⟩ := Go.ChangeMaps.open_string Try.us9 (hval 1 9 v1 rfl rfl) h1
  obtain ⟨t, rfl, -, -, -⟩ := Go.ChangeMaps.open_string Try.us9 (hval 2 9 v2 rfl rfl) h2
  obtain ⟨b, rfl, -, -⟩ := open_bool Try.us4 (hval 3 4 v3 rfl rfl) h3
  obtain ⟨xs4, hx4⟩ := open_slice (T := (Ty.flat 3 actE actE_len)) Try.us23 Try.cs31 (by decide) rd_act3 (hval 4 23 v4 rfl rfl) h4
  refine Calls.mono (law13_plays v0 xs0 f t b v4 xs4 (Tp.Mem.law _ (Facts.cons (Sh.stay fun _ hs => (RepS.flat.1 hx0).stay hs) (Facts.cons (Sh.stay fun _ hs => (RepS.flat.1 hx4).stay hs) trivial)))) fun e W' ⟨v, he, hv, M⟩ => ?_
  subst he
  subst hv
  refine ⟨_, rfl, post_old laid (fun t ht => ?_) (show Try.prog.underlying 4 = some .bool by kernel_rfl) (by kernel_rfl) rfl rfl rfl rfl hW' M.mod⟩
  have := List.all_eq_true.1 rows t ht
  simpa using this
set_option maxRecDepth 100000 in
theorem lifted (os : Os) (started : os.Started) (H : Type) (enc : TypeId × Value → H) :
    ReturnsInHanded {} Try.checked os 4 .any (Rows.scanPlaysSpec.pre6 enc Try.prog Try.f4 [] false) (Rows.scanPlaysSpec.post enc Try.prog Try.f4 false true false false) := by
  refine returnsInHanded_of_change (C := Try.checked) (s := Rows.scanPlaysSpec) own started (by kernel_rfl) Try.func4
    (ChangeSpec.witness6 (enc := enc) (C := Try.checked) (s := Rows.scanPlaysSpec) (conds := []) false ⟨#[], #[.slice none 0 0, .string ⟨#[]⟩, .string ⟨#[]⟩, .bool false, .slice none 0 0], []⟩ 8 (by kernel_rfl) (by kernel_rfl) (by kernel_rfl) (by kernel_rfl) rfl) ?_
  intro W base args ds gs before hval hW _ _
  exact contract H enc W base args ds gs before hval hW
theorem proved : Rows.ScanPlaysSaid :=
  OpenClaim.holds_of_wide 4 Try.f4 rfl rfl rfl rfl rfl rfl rfl ⟨rfl, rfl, rfl, rfl, rfl⟩ rfl rfl rfl rfl rfl (by kernel_rfl) Try.func4 (by kernel_rfl)
    (of_decide_eq_true (by kernel_rfl)) (by unfold Func.isWrapper; first | (rw [if_pos (by decide +kernel)]; kernel_rfl) | (rw [if_neg (by decide +kernel)]; exact ⟨rfl, rfl⟩))
    (fun os started H enc _ => lifted os started H enc)
end Go.Proofs.Ytnlnpfpfggbheaa.scanPlays
