/- How the laws' arguments read: codes. -/
import Derived.Test.YtcmmfamippdgbaaOpen
namespace Go.Proofs.Ytcmmfamippdgbaa
open Vc Go.ChangeShapes Go.WideShapes Go.ChangeAt Go.RowKit

theorem opBytes : Opens Try.prog 22 (fun x : Value × List Int => [x.1]) (fun w x => Sl byteE 1 x.1 x.2 w ∧ (∀ y ∈ x.2, 0 ≤ y ∧ y ≤ 255) ∧ x.2.length ≤ maxLen) :=
  opens_slice inferInstance Try.underlying22 (by kernel_rfl) (opens_byte Try.underlying5)
end Go.Proofs.Ytcmmfamippdgbaa
