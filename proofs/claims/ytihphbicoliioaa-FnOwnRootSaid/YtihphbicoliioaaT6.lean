/- Contracts: leaves of entries, what shows that a head follows; the law FnExactHedProof, walked: it returns true. -/
import Derived.Test.YtihphbicoliioaaT5
namespace Go.Proofs.Ytihphbicoliioaa
open Vc

end Go.Proofs.Ytihphbicoliioaa
