/- Contracts: WatOk, the program's and the reference's; the law FnExactWatOk, walked: it returns true. -/
import Derived.Test.YtihphbicoliioaaA7
namespace Go.Proofs.Ytihphbicoliioaa
open Vc

end Go.Proofs.Ytihphbicoliioaa
