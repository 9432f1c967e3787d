/- Contracts: slices of numbers: copied, compared, added up; and the law FnExactMonSum. -/
import Derived.Test.YtjdpepgploeicaaA2
namespace Go.Proofs.Ytjdpepgploeicaa
open Vc

end Go.Proofs.Ytjdpepgploeicaa
