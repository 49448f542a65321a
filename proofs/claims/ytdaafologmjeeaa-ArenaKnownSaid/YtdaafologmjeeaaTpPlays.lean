/- Proved: the law ArenaPlays returns true for every input, and turns nothing that it is handed: Rows.ArenaPlaysSaid. No condition. -/
import Derived.Test.YtdaafologmjeeaaTpW9
import Derived.Test.YtdaafologmjeeaaTpNone
set_option linter.all false
set_option maxRecDepth 100000
namespace Tp
open Go Go.Proofs Go.ChangeShapes Go.WideShapes
theorem open_acts {H : Type} {enc : TypeId × Value → H} {W : World} {b : Nat} {v : Value} {d : DataW H} {p : List MemPlace} (hv : Value.okWide Try.prog W .any b 43 v) (h : DataW.Trod enc Try.prog W 0 (fun _ => true) true 43 v d p) :
    ∃ xs : List AAct, RepS ActT v xs W := by
  obtain ⟨a, len, cap, rfl⟩ := okWide_slice Try.us43 hv
  obtain ⟨n, hn⟩ := h
  obtain ⟨v', xs, e, hx⟩ := reads_slice Try.us43 Try.cs51 (by decide) rd_act hn
  have : v' = .slice a len cap := by
    have e2 : [Value.slice a len cap] = [v'] := e
    cases e2; rfl
  subst this
  exact ⟨xs, hx⟩
end Tp
namespace Go.Proofs.Ytdaafologmjeeaa.arenaPlays
open Go.ChangeShapes Go.WideShapes Go.ChangeAt Go.RowKit Tp
theorem own : ownKnob Try.prog.godebug = none := by kernel_rfl
theorem laid : laidOutB Try.prog = true := by kernel_rfl
theorem rows : Try.f4.params.toList.all (fun t => Try.prog.readableRec t && decide (t < Try.prog.types.size)) = true := by kernel_rfl
theorem contract (H : Type) (enc : TypeId × Value → H) (W : World) (base : Nat) (args : Array Value) (ds gs : List (DataW H)) (before : List MemPlace)
    (hval : ∀ (j : Nat) t v, Try.f4.params[j]? = some t → args[j]? = some v → Value.okWide Try.prog W .any base t v)
    (hW : DataW.Whole enc Try.prog Try.f4.params.toList Rows.arenaPlaysSpec.vars false W args.toList ds gs before) :
    Calls Try.prog 4 args W fun e W' => ∃ v, e = .returned v ∧ Rows.arenaPlaysSpec.post enc Try.prog Try.f4 false true false false W args v W' := by
  have hW' := hW
  obtain ⟨p, q, hA, hV, rfl, hfz, hnd⟩ := hW
  obtain ⟨rfl, rfl⟩ := trodVars_none hV
  rw [Try.params4] at hA hval
  obtain ⟨v0, d0, rfl, rfl, h0⟩ := trodAll_one hA
  obtain ⟨xs, hx⟩ := open_acts (hval 0 43 v0 rfl rfl) h0
  refine Calls.mono (law_plays v0 xs (Tp.Mem.law _ ⟨Sh.stay fun _ hs => hx.stay actT_stays hs, trivial⟩)) fun e W' ⟨v, he, hv, M⟩ => ?_
  subst he
  subst hv
  refine ⟨_, rfl, post_old laid (fun t ht => ?_) (show Try.prog.underlying 4 = some .bool by kernel_rfl) (by kernel_rfl) rfl rfl rfl rfl hW' M.mod⟩
  have := List.all_eq_true.1 rows t ht
  simpa using this
set_option maxRecDepth 100000 in
theorem lifted (os : Os) (started : os.Started) (H : Type) (enc : TypeId × Value → H) :
    ReturnsInHanded {} Try.checked os 4 .any (Rows.arenaPlaysSpec.pre6 enc Try.prog Try.f4 [] false) (Rows.arenaPlaysSpec.post enc Try.prog Try.f4 false true false false) := by
  refine returnsInHanded_of_change (C := Try.checked) (s := Rows.arenaPlaysSpec) own started (by kernel_rfl) Try.func4
    (ChangeSpec.witness6 (enc := enc) (C := Try.checked) (s := Rows.arenaPlaysSpec) (conds := []) false ⟨#[], #[.slice none 0 0], []⟩ 8 (by kernel_rfl) (by kernel_rfl) (by kernel_rfl) (by kernel_rfl) rfl) ?_
  intro W base args ds gs before hval hW _ _
  exact contract H enc W base args ds gs before hval hW
theorem proved : Rows.ArenaPlaysSaid :=
  OpenClaim.holds_of_wide 4 Try.f4 rfl rfl rfl rfl rfl rfl rfl ⟨rfl, rfl, rfl, rfl, rfl⟩ rfl rfl rfl rfl rfl (by kernel_rfl) Try.func4 (by kernel_rfl)
    (of_decide_eq_true (by kernel_rfl)) (by unfold Func.isWrapper; first | (rw [if_pos (by decide +kernel)]; kernel_rfl) | (rw [if_neg (by decide +kernel)]; exact ⟨rfl, rfl⟩))
    (fun os started H enc _ => lifted os started H enc)
end Go.Proofs.Ytdaafologmjeeaa.arenaPlays
