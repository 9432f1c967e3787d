/- Contracts: gates; GatOk, the program's and the reference's. -/
import Derived.Test.YtjdpepgploeicaaA11
namespace Go.Proofs.Ytjdpepgploeicaa
open Vc

end Go.Proofs.Ytjdpepgploeicaa
