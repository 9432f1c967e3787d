/- Contracts: heads that are watched: sized, copied, compared; WatOk. -/
import Derived.Test.YtihphbicoliioaaA6
namespace Go.Proofs.Ytihphbicoliioaa
open Vc

end Go.Proofs.Ytihphbicoliioaa
