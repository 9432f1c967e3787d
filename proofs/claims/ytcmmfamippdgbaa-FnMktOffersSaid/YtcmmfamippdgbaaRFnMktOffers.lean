/- The law FnMktOffers, for every input: it returns true, and its arguments read behind the call as they read before. -/
import Derived.Test.YtcmmfamippdgbaaKB
import Derived.Test.YtcmmfamippdgbaaM20
namespace Go.Proofs.Ytcmmfamippdgbaa
open Vc Go.ChangeShapes Go.WideShapes Go.ChangeAt Go.RowKit

set_option maxRecDepth 100000 in
theorem fnMktOffers_lifted (os : Os) (started : os.Started) (H : Type) (enc : TypeId × Value → H) :
    ReturnsInHanded {} Try.checked os 9 .any (Rows.fnMktOffersSpec.pre6 enc Try.prog Try.f9 Rows.fnMktOffersRow.domain false) (Rows.fnMktOffersSpec.post enc Try.prog Try.f9 false true false false) := by
  refine returnsInHanded_of_change (C := Try.checked) own_ started (by kernel_rfl) Try.func9
    (ChangeSpec.witness6 (enc := enc) (C := Try.checked) false ⟨#[], #[.slice none 0 0, .slice none 0 0], []⟩ 8 (by kernel_rfl) (by kernel_rfl) (by kernel_rfl) (by kernel_rfl)) ?_
  intro W base args ds gs before hval0 hW _ _
  have hval : ∀ (j : Nat) t v, Try.f9.params[j]? = some t → args[j]? = some v → Value.okWide Try.prog W .any base t v := hval0
  have hW' := hW
  obtain ⟨p, q, hA0, hV, _, _, _⟩ := hW'
  have hA : DataW.TrodAll enc Try.prog W 0 (fun _ => true) true Try.f9.params.toList args.toList ds p := hA0
  rw [Try.params9] at hA hval
  obtain ⟨v0, vs0, d0, ds0, p0, q0, hargs, rfl, rfl, h0, r0⟩ := trodAll_cons hA
  obtain ⟨v1, vs1, d1, ds1, p1, q1, rfl, rfl, rfl, h1, r1⟩ := trodAll_cons r0
  obtain ⟨rfl, rfl, rfl⟩ := trodAll_nil r1
  obtain rfl : args = #[v0, v1] := by cases args; simp_all
  obtain ⟨x0, g0⟩ := opBytes.sl Try.underlying22 (hval 0 22 v0 rfl rfl) h0
  obtain ⟨x1, g1⟩ := opBytes.sl Try.underlying22 (hval 1 22 v1 rfl rfl) h1
  exact law_contract laid_ (by kernel_rfl) rfl Try.underlying4 rfl hW (fun h => by subst h; rfl) rfl (lFnMktOffers_c v0 v1 x0 x1 W g0.1 g1.1 g0.2.1 g1.2.1)

theorem fnMktOffers_holds : Rows.FnMktOffersSaid :=
  OpenClaim.holds_of_wide 9 Try.f9 rfl rfl rfl rfl rfl rfl rfl ⟨rfl, rfl, rfl, rfl, rfl⟩ rfl rfl rfl rfl rfl (by kernel_rfl) Try.func9 (by kernel_rfl)
    (of_decide_eq_true (by kernel_rfl)) (by unfold Func.isWrapper; rw [if_neg (of_decide_eq_false (by kernel_rfl))]; exact ⟨rfl, rfl⟩)
    (fun os started H enc _ => fnMktOffers_lifted os started H enc)
end Go.Proofs.Ytcmmfamippdgbaa
