/- How the laws' arguments read: flat structs, slices of them, markets. -/
import Derived.Test.YtaiehgdejjodlaaKinds
import Derived.Test.YtaiehgdejjodlaaOpen2
import Derived.Test.YtaiehgdejjodlaaF
namespace Go.Proofs.Ytaiehgdejjodlaa
open Vc Go.ChangeShapes Go.WideShapes Go.ChangeAt Go.RowKit

theorem opEnt : Opens Try.prog 117 entE (fun _ _ => True) := by
  refine Opens.as (opens_flat (ks := [false, false, false, false]) (by kernel_rfl)) ?_
  intro w l hl
  match l, hl with
  | [.int .i64 a, .int .i64 b, .int .i64 c, .int .i64 d], _ => exact ⟨⟨a, b, c, d⟩, rfl, trivial⟩
theorem opEnts : Opens Try.prog 54 (fun x : Value × List Ent => [x.1]) (fun w x => Sl entE 4 x.1 x.2 w ∧ (∀ y ∈ x.2, True) ∧ x.2.length ≤ maxLen) :=
  opens_slice inferInstance Try.underlying54 (by kernel_rfl) opEnt
theorem opRow : Opens Try.prog 109 rowE (fun _ _ => True) := by
  refine Opens.as (opens_flat (ks := [false, false, true]) (by kernel_rfl)) ?_
  intro w l hl
  match l, hl with
  | [.int .i64 a, .int .i64 b, .bool c], _ => exact ⟨⟨a, b, c⟩, rfl, trivial⟩
theorem opRows : Opens Try.prog 43 (fun x : Value × List Row => [x.1]) (fun w x => Sl rowE 3 x.1 x.2 w ∧ (∀ y ∈ x.2, True) ∧ x.2.length ≤ maxLen) :=
  opens_slice inferInstance Try.underlying43 (by kernel_rfl) opRow
end Go.Proofs.Ytaiehgdejjodlaa
