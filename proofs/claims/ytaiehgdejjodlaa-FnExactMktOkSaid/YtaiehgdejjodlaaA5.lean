/- Contracts: a purse turned; what is marked and held; and the law FnExactMonTurn. -/
import Derived.Test.YtaiehgdejjodlaaA4
namespace Go.Proofs.Ytaiehgdejjodlaa
open Vc

/-! ## marks -/
def marks (k : Int) (n : Nat) : List Int := (List.range n).map (fun i : Nat => k + (i : Int))
end Go.Proofs.Ytaiehgdejjodlaa
