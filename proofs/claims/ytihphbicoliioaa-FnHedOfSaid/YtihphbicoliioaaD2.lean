/- Contracts: purses drawn. -/
import Derived.Test.YtihphbicoliioaaD1
namespace Go.Proofs.Ytihphbicoliioaa
open Vc

end Go.Proofs.Ytihphbicoliioaa
