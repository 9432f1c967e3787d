/- The law FnExactWatMeet, walked: it returns true. -/
import Derived.Test.YtcmmfamippdgbaaA9
namespace Go.Proofs.Ytcmmfamippdgbaa
open Vc

theorem eqHedHead_same (a : Hed) (w : World) : FnP Try.prog 36 [.agg (hedE a).toArray, .agg (hedE a).toArray] w (.bool true) := by
  have := eqHedHead_c a a w
  rwa [decide_eq_true rfl] at this

end Go.Proofs.Ytcmmfamippdgbaa
