/- Contracts: what the laws of entries and rows call; the law FnOwnPut, walked: it returns true. -/
import Derived.Test.YtjdpepgploeicaaD8
import Derived.Test.YtjdpepgploeicaaD4
import Derived.Test.YtjdpepgploeicaaO5
import Derived.Test.YtjdpepgploeicaaV4
namespace Go.Proofs.Ytjdpepgploeicaa
open Vc

end Go.Proofs.Ytjdpepgploeicaa
