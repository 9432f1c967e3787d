/- Contracts: a purse turned; what is marked and held; and the law FnExactMonTurn. -/
import Derived.Test.YtblmgpdbncihbaaA4
namespace Go.Proofs.Ytblmgpdbncihbaa
open Vc

def monTurn (xs : List Int) (who n : Int) : List Int × Bool :=
  if monOk xs = true ∧ inB who 1 5 = true ∧ inB n (-100000) 100000 = true ∧ inB (xs.getD (who - 1).toNat 0 + n) 0 100000 = true then (xs.set (who - 1).toNat (xs.getD (who - 1).toNat 0 + n), true) else (xs, false)
theorem monTurn_length (xs : List Int) (who n : Int) : (monTurn xs who n).1.length = xs.length := by unfold monTurn; split <;> simp

/-! ## marks -/
def marks (k : Int) (n : Nat) : List Int := (List.range n).map (fun i : Nat => k + (i : Int))
end Go.Proofs.Ytblmgpdbncihbaa
