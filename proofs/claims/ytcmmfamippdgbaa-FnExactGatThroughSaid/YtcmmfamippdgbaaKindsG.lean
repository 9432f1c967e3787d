/- How a gate reads. -/
import Derived.Test.YtcmmfamippdgbaaKinds
import Derived.Test.YtcmmfamippdgbaaOpen2
import Derived.Test.YtcmmfamippdgbaaA12
namespace Go.Proofs.Ytcmmfamippdgbaa
open Vc Go.ChangeShapes Go.WideShapes Go.ChangeAt Go.RowKit

theorem opGat : Opens Try.prog 127 (fun x : Hed × Value × List Int => gatE x.1 x.2.1) (fun w x => hedFits x.1 ∧ Sl intE 1 x.2.1 x.2.2 w ∧ (∀ y ∈ x.2.2, Fits64 y) ∧ x.2.2.length ≤ maxLen) := by
  refine Opens.as (OpensAt.struct Try.underlying127 (by kernel_rfl) (OpensAt.cons opHed rfl (OpensAt.cons opInts (by kernel_rfl) OpensAt.nil))) ?_
  rintro w ⟨h, ⟨v, xs⟩, ⟨⟩⟩ ⟨hh, hs, _⟩
  exact ⟨(h, v, xs), rfl, hh, hs⟩
end Go.Proofs.Ytcmmfamippdgbaa
