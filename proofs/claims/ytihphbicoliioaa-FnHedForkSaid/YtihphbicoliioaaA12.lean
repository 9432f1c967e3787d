/- Contracts: gates; GatOk, the program's and the reference's. -/
import Derived.Test.YtihphbicoliioaaA11
namespace Go.Proofs.Ytihphbicoliioaa
open Vc

end Go.Proofs.Ytihphbicoliioaa
