/- The law FnExactMonTurn, walked: it returns true. -/
import Derived.Test.YtcmmfamippdgbaaA5
namespace Go.Proofs.Ytcmmfamippdgbaa
open Vc

theorem eqIntS_same (v u : Value) (ys : List Int) (w : World) (hs : Sl intE 1 v ys w) (hs' : Sl intE 1 u ys w) (hl : ys.length ≤ 1099511627776) : FnP Try.prog 65 [v, u] w (.bool true) := by
  have := eqIntS_c v u ys ys w hs hs' hl
  rwa [decide_eq_true rfl] at this

end Go.Proofs.Ytcmmfamippdgbaa
