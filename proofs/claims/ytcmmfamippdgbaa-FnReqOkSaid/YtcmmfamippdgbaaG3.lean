/- Contracts: GatThrough, the program's and the reference's. -/
import Derived.Test.YtcmmfamippdgbaaG2
import Derived.Test.YtcmmfamippdgbaaV3
namespace Go.Proofs.Ytcmmfamippdgbaa
open Vc

def cur (ds : List (List Int)) (i : Nat) : List Int := (ds.take i).flatten.foldl addI []
end Go.Proofs.Ytcmmfamippdgbaa
