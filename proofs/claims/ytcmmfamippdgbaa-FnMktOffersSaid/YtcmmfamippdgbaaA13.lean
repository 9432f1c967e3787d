/- Contracts: GatOk, the program's and the reference's. -/
import Derived.Test.YtcmmfamippdgbaaA9
namespace Go.Proofs.Ytcmmfamippdgbaa
open Vc

theorem Vc.WC.drawsA {P : Program} {w0 : World} {X : List Nat} {N : Nat} {Q : Exit → Act → World → Prop} {fr : Fr} {L : List Res} {id : Nat} {l : List Oper} (hm : P.follows .mixedOrders = true)
    (h : WH P w0 X N l.toArray Q L l.length (Array.replicate l.length false) fr L) : WC P w0 X N Q (Code.region id l.toArray true) fr L := WC.drawsX L hm h

end Go.Proofs.Ytcmmfamippdgbaa
