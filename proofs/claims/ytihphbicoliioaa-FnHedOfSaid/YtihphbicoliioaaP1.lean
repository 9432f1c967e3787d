/- Plain laws of purses: no program in sight. -/
import Derived.Test.YtihphbicoliioaaB1
namespace Go.Proofs.Ytihphbicoliioaa
open Vc

end Go.Proofs.Ytihphbicoliioaa
