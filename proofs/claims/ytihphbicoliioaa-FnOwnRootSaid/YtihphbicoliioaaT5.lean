/- Contracts: proofs that the first leaves are the beginning; leaves of entries; the law FnExactHedProof. -/
import Derived.Test.YtihphbicoliioaaT4
import Derived.Test.YtihphbicoliioaaA6
import Derived.Test.YtihphbicoliioaaFM
namespace Go.Proofs.Ytihphbicoliioaa
open Vc

end Go.Proofs.Ytihphbicoliioaa
