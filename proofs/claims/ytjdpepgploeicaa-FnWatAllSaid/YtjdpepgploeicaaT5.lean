/- Contracts: proofs that the first leaves are the beginning; leaves of entries; the law FnExactHedProof. -/
import Derived.Test.YtjdpepgploeicaaT4
import Derived.Test.YtjdpepgploeicaaA6
import Derived.Test.YtjdpepgploeicaaFM
namespace Go.Proofs.Ytjdpepgploeicaa
open Vc

end Go.Proofs.Ytjdpepgploeicaa
