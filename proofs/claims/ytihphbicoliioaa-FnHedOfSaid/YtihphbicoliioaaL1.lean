/- Contracts: what the laws of entries and rows call; the law FnOwnPut, walked: it returns true. -/
import Derived.Test.YtihphbicoliioaaD8
import Derived.Test.YtihphbicoliioaaD4
import Derived.Test.YtihphbicoliioaaO5
import Derived.Test.YtihphbicoliioaaV4
namespace Go.Proofs.Ytihphbicoliioaa
open Vc

end Go.Proofs.Ytihphbicoliioaa
