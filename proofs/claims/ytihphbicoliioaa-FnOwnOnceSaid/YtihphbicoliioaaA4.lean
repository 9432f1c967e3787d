/- Contracts: purses. -/
import Derived.Test.YtihphbicoliioaaA3
namespace Go.Proofs.Ytihphbicoliioaa
open Vc

end Go.Proofs.Ytihphbicoliioaa
