/- Contracts: purses and what else a law of purses draws. -/
import Derived.Test.YtihphbicoliioaaD2
namespace Go.Proofs.Ytihphbicoliioaa
open Vc

end Go.Proofs.Ytihphbicoliioaa
