/- How the laws' arguments read, by their types. -/
import Derived.Test.YtpfnlnpjdjekaaaA2
import Derived.Test.YtpfnlnpjdjekaaaOpen
namespace Go.Proofs.Ytpfnlnpjdjekaaa
open Vc Go.ChangeShapes Go.WideShapes Go.ChangeAt Go.RowKit

theorem opInt : Opens Try.prog 3 intE (fun _ n => Fits64 n) := opens_int Try.underlying3
theorem opInts : Opens Try.prog 30 (fun x : Value × List Int => [x.1]) (fun w x => Sl intE 1 x.1 x.2 w ∧ (∀ y ∈ x.2, Fits64 y) ∧ x.2.length ≤ maxLen) :=
  opens_slice inferInstance Try.underlying30 (by kernel_rfl) opInt
def hedFits (h : Hed) : Prop := Fits64 h.size ∧ Fits64 h.log ∧ Fits64 h.own
theorem opHed : Opens Try.prog 23 hedE (fun _ h => hedFits h) := by
  refine Opens.as (opens_flat (ks := [false, false, false]) (by kernel_rfl)) ?_
  intro w l hl
  match l, hl with
  | [.int .i64 a, .int .i64 b, .int .i64 c], hl => exact ⟨⟨a, b, c⟩, rfl, hl.1, hl.2.1, hl.2.2.1⟩
theorem opReq : Opens Try.prog 36 reqE (fun _ _ => True) := by
  refine Opens.as (opens_flat (ks := [false, false, false, false, false, false]) (by kernel_rfl)) ?_
  intro w l hl
  match l, hl with
  | [.int .i64 a, .int .i64 b, .int .i64 c, .int .i64 d, .int .i64 e, .int .i64 f], _ => exact ⟨⟨a, b, c, d, e, f⟩, rfl, trivial⟩
theorem opHeds : Opens Try.prog 59 (fun x : Value × List Hed => [x.1]) (fun w x => Sl hedE 3 x.1 x.2 w ∧ (∀ y ∈ x.2, hedFits y) ∧ x.2.length ≤ maxLen) :=
  opens_slice inferInstance Try.underlying59 (by kernel_rfl) opHed
end Go.Proofs.Ytpfnlnpjdjekaaa
