/- Contracts: purses drawn. -/
import Derived.Test.YtjdpepgploeicaaD1
namespace Go.Proofs.Ytjdpepgploeicaa
open Vc

end Go.Proofs.Ytjdpepgploeicaa
