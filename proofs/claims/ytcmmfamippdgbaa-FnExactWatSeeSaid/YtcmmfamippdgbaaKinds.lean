/- How the laws' arguments read, by their types. -/
import Derived.Test.YtcmmfamippdgbaaA2
import Derived.Test.YtcmmfamippdgbaaOpen
namespace Go.Proofs.Ytcmmfamippdgbaa
open Vc Go.ChangeShapes Go.WideShapes Go.ChangeAt Go.RowKit

def hedFits (h : Hed) : Prop := Fits64 h.size ∧ Fits64 h.log ∧ Fits64 h.own
theorem opHed : Opens Try.prog 53 hedE (fun _ h => hedFits h) := by
  refine Opens.as (opens_flat (ks := [false, false, false]) (by kernel_rfl)) ?_
  intro w l hl
  match l, hl with
  | [.int .i64 a, .int .i64 b, .int .i64 c], hl => exact ⟨⟨a, b, c⟩, rfl, hl.1, hl.2.1, hl.2.2.1⟩
theorem opHeds : Opens Try.prog 52 (fun x : Value × List Hed => [x.1]) (fun w x => Sl hedE 3 x.1 x.2 w ∧ (∀ y ∈ x.2, hedFits y) ∧ x.2.length ≤ maxLen) :=
  opens_slice inferInstance Try.underlying52 (by kernel_rfl) opHed
end Go.Proofs.Ytcmmfamippdgbaa
