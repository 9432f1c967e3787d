/- More rules of the calculus: ways that join; walks that halt. -/
import Derived.Test.YtcmmfamippdgbaaV4
namespace Go.Proofs.Ytcmmfamippdgbaa.Vc
open Go.RowKit

/-- a goal that no rule of the walk meets -/
@[irreducible] def Mark (p : Prop) : Prop := p
theorem Mark.go {p : Prop} (h : p) : Mark p := by unfold Mark; exact h
theorem Mark.out {p : Prop} (h : Mark p) : p := by unfold Mark at h; exact h
section
variable {P : Program} {w0 : World} {X : List Nat} {N : Nat} {Q : Exit → Act → World → Prop} {fr : Fr} {L : List Res}
theorem WC.stop (t : Nat) {x y : Code} (h : Mark (WC P w0 X N Q (Code.cond (.tmp t) x y) fr L)) : WC P w0 X N Q (Code.cond (.tmp t) x y) fr L := h.out
/-- the ways through c meet again: behind it the slots ks are as they were, 'up' tells the others -/
theorem WC.join {A : Type} (ks : List Nat) (G : A → Prop) (up : A → Fr) (LI : A → List Res) {c : Code} {fr0 : Fr} (_hk : Pick fr ks fr0)
    (h1 : WC P w0 X N (Exit.then (Inv G (fun x => up x ++ fr0) LI w0 X N (fun _ => True)) Q) c fr L)
    (h2 : ∀ y, G y → WQ w0 X N Q .normal (up y ++ fr0) (LI y)) : WC P w0 X N Q c fr L := by
  unfold WC at h1 ⊢
  intro a w ha hs
  refine wp_mono (h1 a w ha hs) (fun e a' w' h => ?_)
  cases e with
  | normal =>
    obtain ⟨y, hG, _, ha', hs'⟩ := h.ex
    have := h2 y hG
    unfold WQ at this
    exact this a' w' ha' hs'
  | _ => exact h
end
end Go.Proofs.Ytcmmfamippdgbaa.Vc
