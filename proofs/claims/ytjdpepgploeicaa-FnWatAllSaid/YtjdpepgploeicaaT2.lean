/- Contracts: what grows: proofs that lead to both roots; heads that follow. -/
import Derived.Test.YtjdpepgploeicaaT1
namespace Go.Proofs.Ytjdpepgploeicaa
open Vc

end Go.Proofs.Ytjdpepgploeicaa
