/- Contracts: as XT2, the reference's; and the law FnExactHedFollows. -/
import Derived.Test.YtihphbicoliioaaT2
import Derived.Test.YtihphbicoliioaaA6
namespace Go.Proofs.Ytihphbicoliioaa
open Vc

end Go.Proofs.Ytihphbicoliioaa
