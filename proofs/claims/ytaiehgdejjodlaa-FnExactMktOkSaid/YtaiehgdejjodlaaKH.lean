/- How a market reads. -/
import Derived.Test.YtaiehgdejjodlaaKF
import Derived.Test.YtaiehgdejjodlaaH1
namespace Go.Proofs.Ytaiehgdejjodlaa
open Vc Go.ChangeShapes Go.WideShapes Go.ChangeAt Go.RowKit

theorem opHouse : Opens Try.prog 83 (fun x : HouV × Hou => houE x.1 x.2.clock) (fun w x => HouS x.1 x.2 w ∧ HouL x.2 9223372036854775807) := by
  refine Opens.as (OpensAt.struct Try.underlying83 (by kernel_rfl) (OpensAt.cons opEnts rfl (OpensAt.cons opInts (by kernel_rfl) (OpensAt.cons opDeals (by kernel_rfl) (OpensAt.cons opInt (by kernel_rfl) (OpensAt.cons opInts (by kernel_rfl) (OpensAt.cons opInts (by kernel_rfl) OpensAt.nil))))))) ?_
  rintro w ⟨⟨v1, x1⟩, ⟨v2, x2⟩, ⟨v3, x3⟩, c, ⟨v4, x4⟩, ⟨v5, x5⟩, ⟨⟩⟩ ⟨⟨a1, _, b1⟩, ⟨a2, _, b2⟩, ⟨a3, _, b3⟩, _, ⟨a4, _, b4⟩, ⟨a5, _, b5⟩, _⟩
  unfold maxLen at *
  exact ⟨(⟨v1, v2, v3, v4, v5⟩, ⟨x1, x2, x3, c, x4, x5⟩), rfl, ⟨a1, a2, a3, a4, a5⟩, ⟨by simp only at *; omega, by simp only at *; omega, by simp only at *; omega, by simp only at *; omega, by simp only at *; omega⟩⟩
end Go.Proofs.Ytaiehgdejjodlaa
