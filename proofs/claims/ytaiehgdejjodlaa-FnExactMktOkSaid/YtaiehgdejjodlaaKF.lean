/- How the laws' arguments read: flat structs, slices of them, markets. -/
import Derived.Test.YtaiehgdejjodlaaKinds
import Derived.Test.YtaiehgdejjodlaaOpen2
import Derived.Test.YtaiehgdejjodlaaF
namespace Go.Proofs.Ytaiehgdejjodlaa
open Vc Go.ChangeShapes Go.WideShapes Go.ChangeAt Go.RowKit

theorem opEnt : Opens Try.prog 117 entE (fun _ _ => True) := by
  refine Opens.as (opens_flat (ks := [false, false, false, false]) (by kernel_rfl)) ?_
  intro w l hl
  match l, hl with
  | [.int .i64 a, .int .i64 b, .int .i64 c, .int .i64 d], _ => exact ⟨⟨a, b, c, d⟩, rfl, trivial⟩
theorem opEnts : Opens Try.prog 54 (fun x : Value × List Ent => [x.1]) (fun w x => Sl entE 4 x.1 x.2 w ∧ (∀ y ∈ x.2, True) ∧ x.2.length ≤ maxLen) :=
  opens_slice inferInstance Try.underlying54 (by kernel_rfl) opEnt
theorem opDeal : Opens Try.prog 142 dealE (fun _ _ => True) := by
  refine Opens.as (opens_flat (ks := [false, false, false, false, false]) (by kernel_rfl)) ?_
  intro w l hl
  match l, hl with
  | [.int .i64 a, .int .i64 b, .int .i64 c, .int .i64 d, .int .i64 e], _ => exact ⟨⟨a, b, c, d, e⟩, rfl, trivial⟩
theorem opDeals : Opens Try.prog 81 (fun x : Value × List Deal => [x.1]) (fun w x => Sl dealE 5 x.1 x.2 w ∧ (∀ y ∈ x.2, True) ∧ x.2.length ≤ maxLen) :=
  opens_slice inferInstance Try.underlying81 (by kernel_rfl) opDeal
end Go.Proofs.Ytaiehgdejjodlaa
