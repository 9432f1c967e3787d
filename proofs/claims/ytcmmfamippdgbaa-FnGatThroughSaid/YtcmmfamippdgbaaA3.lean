/- Contracts: slices of numbers: copied, compared, added up; and the law FnExactMonSum. -/
import Derived.Test.YtcmmfamippdgbaaA2
namespace Go.Proofs.Ytcmmfamippdgbaa
open Vc

theorem take_eq_snoc {xs ys : List Int} {k : Nat} {x y : Int} (hx : xs[k]? = some x) (hy : ys[k]? = some y) (h : xs.take k = ys.take k) (e : x = y) : xs.take (k + 1) = ys.take (k + 1) := by
  rw [take_snoc_ hx, take_snoc_ hy, h, e]
end Go.Proofs.Ytcmmfamippdgbaa
