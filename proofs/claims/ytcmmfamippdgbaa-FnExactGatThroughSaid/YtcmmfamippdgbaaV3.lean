/- More rules of the calculus: drawing regions, quicker. -/
import Derived.Test.YtcmmfamippdgbaaV2
namespace Go.Proofs.Ytcmmfamippdgbaa.Vc
open Go.RowKit

/-- what a panic's end holds does not hang on a slot -/
def PanicOk (Q : Exit → Act → World → Prop) : Prop := ∀ c a d v w, Q (.panic c) (a.put d v) w → Q (.panic c) a w
section
variable {P : Program} {w0 : World} {X : List Nat} {N : Nat} {ops : Array Oper} {Q : Exit → Act → World → Prop} {fr : Fr} {L Ls : List Res} {f : Nat} {l : Array Bool}
theorem PanicOk.block {id : Nat} (h : PanicOk Q) : PanicOk (Exit.inBlock id Q) := fun c a d v w h' => h c a d v w h'
end
end Go.Proofs.Ytcmmfamippdgbaa.Vc
