/- Proved: the law ArenaNone returns true for every input, and turns nothing that it is handed: Rows.ArenaNoneSaid. No condition. -/
import Derived.Test.YtdaafologmjeeaaTpW5
import Derived.Test.YtdaafologmjeeaaTpRows11
import Derived.Test.YtdaafologmjeeaaTpClose
import Derived.Test.YtdaafologmjeeaaRows
import Derived.WalkKit
set_option linter.all false
set_option maxRecDepth 100000
namespace Tp
open Go Go.Proofs Go.ChangeShapes Go.WideShapes
theorem agg_of {P : Program} {t : TypeId} {fs : Array Field} {w : World} {r : Reach} {b : Nat} {v : Value} {l : List Value} (hs : P.underlying t = some (.struct fs)) (hv : Value.okWide P w r b t v) (hl : v.cells.toList = l) : v = .agg l.toArray := by
  obtain ⟨cs, rfl, _⟩ := okWide_struct hs hv
  subst hl
  rfl
theorem open_handle {H : Type} {enc : TypeId × Value → H} {W : World} {b : Nat} {v : Value} {d : DataW H} {p : List MemPlace} (hv : Value.okWide Try.prog W .any b 29 v) (h : DataW.Trod enc Try.prog W 0 (fun _ => true) true 29 v d p) :
    ∃ h : Handle, v = .agg #[.int .i64 h.at_, .int .i64 h.turn] := by
  obtain ⟨n, hn⟩ := h
  obtain ⟨hd, e⟩ := rd_handle _ _ _ _ _ _ hn
  exact ⟨hd, agg_of Try.us29 hv e⟩
theorem open_node {H : Type} {enc : TypeId × Value → H} {W : World} {b : Nat} {v : Value} {d : DataW H} {p : List MemPlace} (hv : Value.okWide Try.prog W .any b 36 v) (h : DataW.Trod enc Try.prog W 0 (fun _ => true) true 36 v d p) :
    ∃ (kv dv vv : Value) (nd : Nd), v = .agg #[.bool nd.leaf, kv, dv, vv] ∧ NodeC kv dv vv nd W := by
  obtain ⟨n, hn⟩ := h
  obtain ⟨nd, kv, dv, vv, e, hc⟩ := rd_node _ _ _ _ _ _ hn
  exact ⟨kv, dv, vv, nd, agg_of Try.us36 hv e, hc⟩
theorem NodeC.facts {kv dv vv : Value} {n : Nd} {W : World} (h : NodeC kv dv vv n W) {R : List (World → Prop)} (hR : Facts (fun _ => True) W R) :
    Facts (fun _ => True) W (SlAt 1 kv n.keys.length (n.keys.flatMap strE) :: SlAt 2 dv n.kids.length (n.kids.flatMap handleE) :: SlAt 1 vv n.vals.length (n.vals.flatMap intE) :: R) :=
  ⟨Sh.stay fun _ hs => h.1.stay hs, Sh.stay fun _ hs => h.2.1.stay hs, Sh.stay fun _ hs => h.2.2.stay hs, hR⟩
end Tp
namespace Go.Proofs.Ytdaafologmjeeaa.arenaNone
open Go.ChangeShapes Go.WideShapes Go.ChangeAt Go.RowKit Tp
theorem own : ownKnob Try.prog.godebug = none := by kernel_rfl
theorem laid : laidOutB Try.prog = true := by kernel_rfl
theorem rows : Try.f5.params.toList.all (fun t => Try.prog.readableRec t && decide (t < Try.prog.types.size)) = true := by kernel_rfl
theorem contract (H : Type) (enc : TypeId × Value → H) (W : World) (base : Nat) (args : Array Value) (ds gs : List (DataW H)) (before : List MemPlace)
    (hval : ∀ (j : Nat) t v, Try.f5.params[j]? = some t → args[j]? = some v → Value.okWide Try.prog W .any base t v)
    (hW : DataW.Whole enc Try.prog Try.f5.params.toList Rows.arenaNoneSpec.vars false W args.toList ds gs before) :
    Calls Try.prog 5 args W fun e W' => ∃ v, e = .returned v ∧ Rows.arenaNoneSpec.post enc Try.prog Try.f5 false true false false W args v W' := by
  have hW' := hW
  obtain ⟨p, q, hA, hV, rfl, hfz, hnd⟩ := hW
  obtain ⟨rfl, rfl⟩ := trodVars_none hV
  rw [Try.params5] at hA hval
  obtain ⟨v0, v1, d0, d1, p0, p1, rfl, rfl, rfl, h0, h1⟩ := trodAll_two hA
  obtain ⟨h, rfl⟩ := open_handle (hval 0 29 v0 rfl rfl) h0
  obtain ⟨kv, dv, vv, n, rfl, hn⟩ := open_node (hval 1 36 v1 rfl rfl) h1
  refine Calls.mono (law_none h kv dv vv n (Tp.Mem.law _ (hn.facts trivial))) fun e W' ⟨v, he, hv, M⟩ => ?_
  subst he
  subst hv
  refine ⟨_, rfl, post_old laid (fun t ht => ?_) (show Try.prog.underlying 4 = some .bool by kernel_rfl) (by kernel_rfl) rfl rfl rfl rfl hW' M.mod⟩
  have := List.all_eq_true.1 rows t ht
  simpa using this
set_option maxRecDepth 100000 in
theorem lifted (os : Os) (started : os.Started) (H : Type) (enc : TypeId × Value → H) :
    ReturnsInHanded {} Try.checked os 5 .any (Rows.arenaNoneSpec.pre6 enc Try.prog Try.f5 [] false) (Rows.arenaNoneSpec.post enc Try.prog Try.f5 false true false false) := by
  refine returnsInHanded_of_change (C := Try.checked) (s := Rows.arenaNoneSpec) own started (by kernel_rfl) Try.func5
    (ChangeSpec.witness6 (enc := enc) (C := Try.checked) (s := Rows.arenaNoneSpec) (conds := []) false ⟨#[], #[.agg #[.int .i64 0, .int .i64 0], .agg #[.bool false, .slice none 0 0, .slice none 0 0, .slice none 0 0]], []⟩ 8 (by kernel_rfl) (by kernel_rfl) (by kernel_rfl) (by kernel_rfl) rfl) ?_
  intro W base args ds gs before hval hW _ _
  exact contract H enc W base args ds gs before hval hW
theorem proved : Rows.ArenaNoneSaid :=
  OpenClaim.holds_of_wide 5 Try.f5 rfl rfl rfl rfl rfl rfl rfl ⟨rfl, rfl, rfl, rfl, rfl⟩ rfl rfl rfl rfl rfl (by kernel_rfl) Try.func5 (by kernel_rfl)
    (of_decide_eq_true (by kernel_rfl)) (by unfold Func.isWrapper; first | (rw [if_pos (by decide +kernel)]; kernel_rfl) | (rw [if_neg (by decide +kernel)]; exact ⟨rfl, rfl⟩))
    (fun os started H enc _ => lifted os started H enc)
end Go.Proofs.Ytdaafologmjeeaa.arenaNone
