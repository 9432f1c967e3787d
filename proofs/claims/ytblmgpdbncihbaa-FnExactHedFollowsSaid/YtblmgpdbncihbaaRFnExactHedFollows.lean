/- The law FnExactHedFollows, for every input: it returns true, and its arguments read behind the call as they read before. -/
import Derived.Test.YtblmgpdbncihbaaKinds
import Derived.Test.YtblmgpdbncihbaaT3
namespace Go.Proofs.Ytblmgpdbncihbaa
open Vc Go.ChangeShapes Go.WideShapes Go.ChangeAt Go.RowKit

set_option maxRecDepth 100000 in
theorem fnExactHedFollows_lifted (os : Os) (started : os.Started) (H : Type) (enc : TypeId × Value → H) :
    ReturnsInHanded {} Try.checked os 10 .any (Rows.fnExactHedFollowsSpec.pre6 enc Try.prog Try.f10 Rows.fnExactHedFollowsRow.domain false) (Rows.fnExactHedFollowsSpec.post enc Try.prog Try.f10 false true false false) := by
  refine returnsInHanded_of_change (C := Try.checked) own_ started (by kernel_rfl) Try.func10
    (ChangeSpec.witness6 (enc := enc) (C := Try.checked) false ⟨#[], #[.agg #[.int .i64 0, .int .i64 0, .int .i64 0], .agg #[.int .i64 0, .int .i64 0, .int .i64 0], .slice none 0 0], []⟩ 8 (by kernel_rfl) (by kernel_rfl) (by kernel_rfl) (by kernel_rfl)) ?_
  intro W base args ds gs before hval0 hW _ _
  have hval : ∀ (j : Nat) t v, Try.f10.params[j]? = some t → args[j]? = some v → Value.okWide Try.prog W .any base t v := hval0
  have hW' := hW
  obtain ⟨p, q, hA0, hV, _, _, _⟩ := hW'
  have hA : DataW.TrodAll enc Try.prog W 0 (fun _ => true) true Try.f10.params.toList args.toList ds p := hA0
  rw [Try.params10] at hA hval
  obtain ⟨v0, vs0, d0, ds0, p0, q0, hargs, rfl, rfl, h0, r0⟩ := trodAll_cons hA
  obtain ⟨v1, vs1, d1, ds1, p1, q1, rfl, rfl, rfl, h1, r1⟩ := trodAll_cons r0
  obtain ⟨v2, vs2, d2, ds2, p2, q2, rfl, rfl, rfl, h2, r2⟩ := trodAll_cons r1
  obtain ⟨rfl, rfl, rfl⟩ := trodAll_nil r2
  obtain rfl : args = #[v0, v1, v2] := by cases args; simp_all
  obtain ⟨x0, rfl, g0⟩ := opHed.agg Try.underlying60 (hval 0 60 v0 rfl rfl) h0
  obtain ⟨x1, rfl, g1⟩ := opHed.agg Try.underlying60 (hval 1 60 v1 rfl rfl) h1
  obtain ⟨x2, g2⟩ := opInts.sl Try.underlying22 (hval 2 22 v2 rfl rfl) h2
  exact law_contract laid_ (by kernel_rfl) rfl Try.underlying4 rfl hW (fun h => by subst h; rfl) rfl (lHedFollows_c x0 x1 v2 x2 W g2.1)

theorem fnExactHedFollows_holds : Rows.FnExactHedFollowsSaid :=
  OpenClaim.holds_of_wide 10 Try.f10 rfl rfl rfl rfl rfl rfl rfl ⟨rfl, rfl, rfl, rfl, rfl⟩ rfl rfl rfl rfl rfl (by kernel_rfl) Try.func10 (by kernel_rfl)
    (of_decide_eq_true (by kernel_rfl)) (by unfold Func.isWrapper; rw [if_neg (of_decide_eq_false (by kernel_rfl))]; exact ⟨rfl, rfl⟩)
    (fun os started H enc _ => fnExactHedFollows_lifted os started H enc)
end Go.Proofs.Ytblmgpdbncihbaa
