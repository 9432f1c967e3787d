/- Contracts: flat structs in slices: marked, held (written by marks.py). -/
import Derived.Test.YtblmgpdbncihbaaF
import Derived.Test.YtblmgpdbncihbaaA7
import Derived.Test.YtblmgpdbncihbaaV2
import Derived.Test.YtblmgpdbncihbaaA5
namespace Go.Proofs.Ytblmgpdbncihbaa
open Vc

section
variable {P : Program} {w0 : World} {X : List Nat} {N : Nat} {ops : Array Oper} {Q : Exit → Act → World → Prop} {rest : List Oper} {fr : Fr} {L L' : List Res} {d ty : Nat} {ps : String} {af : Array Edge}
variable {α : Type} {E : α → List Value} {sz t i f : Nat} {v u : Value} {x y : Operand} {T : Nat} {p : Addr} {ys : List α} {e e' : α}
end
end Go.Proofs.Ytblmgpdbncihbaa
