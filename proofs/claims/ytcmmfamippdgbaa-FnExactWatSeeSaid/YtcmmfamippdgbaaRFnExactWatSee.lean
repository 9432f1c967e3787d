/- The law FnExactWatSee, for every input: it returns true, and its arguments read behind the call as they read before. -/
import Derived.Test.YtcmmfamippdgbaaKinds
import Derived.Test.YtcmmfamippdgbaaW5
namespace Go.Proofs.Ytcmmfamippdgbaa
open Vc Go.ChangeShapes Go.WideShapes Go.ChangeAt Go.RowKit

set_option maxRecDepth 100000 in
theorem fnExactWatSee_lifted (os : Os) (started : os.Started) (H : Type) (enc : TypeId × Value → H) :
    ReturnsInHanded {} Try.checked os 5 .any (Rows.fnExactWatSeeSpec.pre6 enc Try.prog Try.f5 Rows.fnExactWatSeeRow.domain false) (Rows.fnExactWatSeeSpec.post enc Try.prog Try.f5 false true false false) := by
  refine returnsInHanded_of_change (C := Try.checked) own_ started (by kernel_rfl) Try.func5
    (ChangeSpec.witness6 (enc := enc) (C := Try.checked) false ⟨#[], #[.slice none 0 0, .agg #[.int .i64 0, .int .i64 0, .int .i64 0]], []⟩ 8 (by kernel_rfl) (by kernel_rfl) (by kernel_rfl) (by kernel_rfl)) ?_
  intro W base args ds gs before hval0 hW _ _
  have hval : ∀ (j : Nat) t v, Try.f5.params[j]? = some t → args[j]? = some v → Value.okWide Try.prog W .any base t v := hval0
  have hW' := hW
  obtain ⟨p, q, hA0, hV, _, _, _⟩ := hW'
  have hA : DataW.TrodAll enc Try.prog W 0 (fun _ => true) true Try.f5.params.toList args.toList ds p := hA0
  rw [Try.params5] at hA hval
  obtain ⟨v0, vs0, d0, ds0, p0, q0, hargs, rfl, rfl, h0, r0⟩ := trodAll_cons hA
  obtain ⟨v1, vs1, d1, ds1, p1, q1, rfl, rfl, rfl, h1, r1⟩ := trodAll_cons r0
  obtain ⟨rfl, rfl, rfl⟩ := trodAll_nil r1
  obtain rfl : args = #[v0, v1] := by cases args; simp_all
  obtain ⟨x0, g0⟩ := opHeds.sl Try.underlying52 (hval 0 52 v0 rfl rfl) h0
  obtain ⟨x1, rfl, g1⟩ := opHed.agg Try.underlying53 (hval 1 53 v1 rfl rfl) h1
  exact law_contract laid_ (by kernel_rfl) rfl Try.underlying4 rfl hW (fun h => by subst h; rfl) rfl (lWatSee_c v0 x0 x1 W g0.1 (Nat.le_trans g0.2.2 (by decide)))

theorem fnExactWatSee_holds : Rows.FnExactWatSeeSaid :=
  OpenClaim.holds_of_wide 5 Try.f5 rfl rfl rfl rfl rfl rfl rfl ⟨rfl, rfl, rfl, rfl, rfl⟩ rfl rfl rfl rfl rfl (by kernel_rfl) Try.func5 (by kernel_rfl)
    (of_decide_eq_true (by kernel_rfl)) (by unfold Func.isWrapper; rw [if_neg (of_decide_eq_false (by kernel_rfl))]; exact ⟨rfl, rfl⟩)
    (fun os started H enc _ => fnExactWatSee_lifted os started H enc)
end Go.Proofs.Ytcmmfamippdgbaa
