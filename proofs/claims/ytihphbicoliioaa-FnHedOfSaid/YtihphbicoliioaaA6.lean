/- The law FnExactMonTurn, walked: it returns true. -/
import Derived.Test.YtihphbicoliioaaA5
namespace Go.Proofs.Ytihphbicoliioaa
open Vc

end Go.Proofs.Ytihphbicoliioaa
