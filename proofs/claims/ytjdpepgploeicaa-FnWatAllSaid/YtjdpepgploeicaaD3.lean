/- Contracts: purses and what else a law of purses draws. -/
import Derived.Test.YtjdpepgploeicaaD2
namespace Go.Proofs.Ytjdpepgploeicaa
open Vc

end Go.Proofs.Ytjdpepgploeicaa
