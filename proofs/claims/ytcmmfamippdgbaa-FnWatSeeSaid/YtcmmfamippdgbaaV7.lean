/- More rules of the calculus: ways that meet behind a region or a condition. -/
import Derived.Test.YtcmmfamippdgbaaV6
namespace Go.Proofs.Ytcmmfamippdgbaa.Vc
open Go.RowKit
section
variable {P : Program} {w0 : World} {X : List Nat} {N : Nat} {Q : Exit → Act → World → Prop} {fr fr0 : Fr} {L : List Res}
theorem WC.stopR (id : Nat) {l : Array Oper} {b : Bool} (h : Mark (WC P w0 X N Q (Code.region id l b) fr L)) : WC P w0 X N Q (Code.region id l b) fr L := h.out
end
end Go.Proofs.Ytcmmfamippdgbaa.Vc
