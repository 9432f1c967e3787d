/- Contracts: money moved; the law FnExactMonMove, walked: it returns true. -/
import Derived.Test.YtblmgpdbncihbaaA6
namespace Go.Proofs.Ytblmgpdbncihbaa
open Vc

def monMove (xs : List Int) (a b n : Int) : List Int × Bool :=
  if inB n 0 100000 = true ∧ a ≠ b ∧ (monTurn xs a (-n)).2 = true ∧ (monTurn (monTurn xs a (-n)).1 b n).2 = true then ((monTurn (monTurn xs a (-n)).1 b n).1, true) else (xs, false)
theorem monMove_length (xs : List Int) (a b n : Int) : (monMove xs a b n).1.length = xs.length := by
  unfold monMove; split <;> simp [monTurn_length]

end Go.Proofs.Ytblmgpdbncihbaa
