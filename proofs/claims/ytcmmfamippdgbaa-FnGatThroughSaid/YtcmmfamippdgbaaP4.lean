/- Plain laws of heads. -/
import Derived.Test.YtcmmfamippdgbaaL2
import Derived.Test.YtcmmfamippdgbaaO3
namespace Go.Proofs.Ytcmmfamippdgbaa
open Vc

section
variable {q : Bool} {P : Program} {w0 : World} {X : List Nat} {N : Nat} {ops : Array Oper} {Q : Exit → Act → World → Prop} {rest : List Oper} {fr : Fr} {L : List Res} {d ty : Nat} {ps : String} {af : Array Edge}
end
theorem hedCases (xs : List Ent) : ((hedOf xs).2 = false ∧ (hedOf xs).1 = hed0 ∧ (ownFold xs).2 = false) ∨
    ((hedOf xs).2 = true ∧ (ownFold xs).2 = true ∧ hedOk (hedOf xs).1 = true ∧ (hedOf xs).1.size = xs.length ∧ (hedOf xs).1.log = rootL (xs.map entLeaf) ∧ (hedOf xs).1.own = ownRoot (ownFold xs).1 ∧ xs.length ≤ 40) := by
  cases h : (ownFold xs).2
  · exact .inl (by rw [hedOf, h, if_neg (by simp)]; exact ⟨rfl, rfl, rfl⟩)
  · have h40 := ownFold_ok h
    refine .inr ?_
    rw [hedOf, h, if_pos rfl]
    refine ⟨rfl, rfl, ?_, rfl, rfl, rfl, h40⟩
    simp only [hedOk, Bool.and_eq_true]
    exact ⟨⟨inB_true.2 (by omega), (rootL_mx (entLeaves_mx xs)).inB⟩, (ownRoot_mx _).inB⟩
theorem hedAt_fits (xs : List Ent) (n : Int) : 0 ≤ (hedAt xs n).1.size ∧ (hedAt xs n).1.size ≤ 40 := by
  unfold hedAt
  split
  · rcases hedCases (xs.take n.toNat) with ⟨_, e, _⟩ | ⟨_, _, hk, _⟩
    · rw [e]; simp [hed0]
    · simp only [hedOk, Bool.and_eq_true] at hk; exact inB_true.1 hk.1.1
  · simp [hed0]
end Go.Proofs.Ytcmmfamippdgbaa
