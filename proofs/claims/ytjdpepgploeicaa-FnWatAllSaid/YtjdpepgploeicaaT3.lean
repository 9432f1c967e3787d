/- Contracts: as XT2, the reference's; and the law FnExactHedFollows. -/
import Derived.Test.YtjdpepgploeicaaT2
import Derived.Test.YtjdpepgploeicaaA6
namespace Go.Proofs.Ytjdpepgploeicaa
open Vc

end Go.Proofs.Ytjdpepgploeicaa
