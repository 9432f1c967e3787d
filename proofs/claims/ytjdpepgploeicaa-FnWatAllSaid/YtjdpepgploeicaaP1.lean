/- Plain laws of purses: no program in sight. -/
import Derived.Test.YtjdpepgploeicaaB1
namespace Go.Proofs.Ytjdpepgploeicaa
open Vc

end Go.Proofs.Ytjdpepgploeicaa
