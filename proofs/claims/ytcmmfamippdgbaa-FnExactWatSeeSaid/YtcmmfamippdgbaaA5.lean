/- Contracts: a purse turned; what is marked and held; and the law FnExactMonTurn. -/
import Derived.Test.YtcmmfamippdgbaaA2
namespace Go.Proofs.Ytcmmfamippdgbaa
open Vc

/-! ## marks -/
def marks (k : Int) (n : Nat) : List Int := (List.range n).map (fun i : Nat => k + (i : Int))
end Go.Proofs.Ytcmmfamippdgbaa
