/- Contracts: what grows: proofs that lead to both roots; heads that follow. -/
import Derived.Test.YtihphbicoliioaaT1
namespace Go.Proofs.Ytihphbicoliioaa
open Vc

end Go.Proofs.Ytihphbicoliioaa
