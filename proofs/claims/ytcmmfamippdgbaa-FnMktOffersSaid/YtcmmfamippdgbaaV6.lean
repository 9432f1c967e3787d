/- More rules of the calculus: blocks cut, copied, grown; how much room a slice has. -/
import Derived.Test.YtcmmfamippdgbaaV5
import Derived.Test.YtcmmfamippdgbaaV2
import Derived.Laws.CopyRow
import Derived.Lib.AppendZerosOnto
import Derived.Lib.Overlaps
namespace Go.Proofs.Ytcmmfamippdgbaa.Vc
open Go.RowKit
section
variable {q : Bool} {P : Program} {w0 : World} {X : List Nat} {N : Nat} {ops : Array Oper} {Q : Exit → Act → World → Prop} {rest : List Oper} {fr : Fr} {L : List Res}
variable {d ty : Nat} {ps : String} {af : Array Edge} {α : Type} {E : α → List Value} {sz : Nat}

end
theorem WQ.met {A : Type} {w0 : World} {X : List Nat} {N : Nat} {Q : Exit → Act → World → Prop} {fr fr0 : Fr} {L : List Res} {G : A → Prop} {up : A → Fr} {LI : A → List Res} (y : A) (hG : G y) (hup : Fr.le (up y) fr) (h0 : Fr.le fr0 fr) (hL : ∀ w, Vc.St w0 X w L → Vc.St w0 X w (LI y)) :
    WQ w0 X N (Exit.then (Inv G (fun x => up x ++ fr0) LI w0 X N (fun _ => True)) Q) .normal fr L := WQ.againU y hG trivial hup h0 hL
end Go.Proofs.Ytcmmfamippdgbaa.Vc
