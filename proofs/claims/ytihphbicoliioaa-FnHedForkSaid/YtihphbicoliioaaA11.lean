/- The law FnExactWatMeet, walked: it returns true. -/
import Derived.Test.YtihphbicoliioaaA10
namespace Go.Proofs.Ytihphbicoliioaa
open Vc

end Go.Proofs.Ytihphbicoliioaa
