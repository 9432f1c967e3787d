/- Contracts: WatMeet of the reference. -/
import Derived.Test.YtjdpepgploeicaaA9
namespace Go.Proofs.Ytjdpepgploeicaa
open Vc

end Go.Proofs.Ytjdpepgploeicaa
