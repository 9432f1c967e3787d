/- Contracts: WatMeet of the reference. -/
import Derived.Test.YtihphbicoliioaaA9
namespace Go.Proofs.Ytihphbicoliioaa
open Vc

end Go.Proofs.Ytihphbicoliioaa
