/- How the laws' arguments read, by their types. -/
import Derived.Test.YtaiehgdejjodlaaA2
import Derived.Test.YtaiehgdejjodlaaOpen
namespace Go.Proofs.Ytaiehgdejjodlaa
open Vc Go.ChangeShapes Go.WideShapes Go.ChangeAt Go.RowKit

theorem opInt : Opens Try.prog 3 intE (fun _ n => Fits64 n) := opens_int Try.underlying3
theorem opInts : Opens Try.prog 45 (fun x : Value × List Int => [x.1]) (fun w x => Sl intE 1 x.1 x.2 w ∧ (∀ y ∈ x.2, Fits64 y) ∧ x.2.length ≤ maxLen) :=
  opens_slice inferInstance Try.underlying45 (by kernel_rfl) opInt
end Go.Proofs.Ytaiehgdejjodlaa
