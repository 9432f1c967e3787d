/- How gates in slices read. -/
import Derived.Test.YtcmmfamippdgbaaKindsG
import Derived.Test.YtcmmfamippdgbaaN1
namespace Go.Proofs.Ytcmmfamippdgbaa
open Vc Go.ChangeShapes Go.WideShapes Go.ChangeAt Go.RowKit

theorem opGatP : Opens Try.prog 127 gE (fun w g => Sl intE 1 g.v g.done w ∧ g.done.length ≤ maxLen) := by
  refine Opens.as opGat ?_
  rintro w ⟨h, v, xs⟩ ⟨_, hs, _, hl⟩
  exact ⟨⟨h, v, xs, hs.one⟩, rfl, hs, hl⟩
theorem opGats : Opens Try.prog 83 (fun x : Value × List Gat => [x.1]) (fun w x => Sl gE 4 x.1 x.2 w ∧ (∀ y ∈ x.2, Sl intE 1 y.v y.done w ∧ y.done.length ≤ maxLen) ∧ x.2.length ≤ maxLen) :=
  opens_slice inferInstance Try.underlying83 (by kernel_rfl) opGatP
theorem gats_of {v : Value} {gs : List Gat} {w : World} (h : Sl gE 4 v gs w ∧ (∀ y ∈ gs, Sl intE 1 y.v y.done w ∧ y.done.length ≤ maxLen) ∧ gs.length ≤ maxLen) : GatS v gs w ∧ GatL gs 9223372036854775807 := by
  obtain ⟨hs, hg, hl⟩ := h
  refine ⟨⟨hs, fun g h => (hg g h).1⟩, ?_, fun g h => ?_⟩
  · have := Nat.le_trans hl (by decide : maxLen ≤ 9223372036854775807); omega
  · have := Nat.le_trans (hg g h).2 (by decide : maxLen ≤ 9223372036854775807); omega
end Go.Proofs.Ytcmmfamippdgbaa
