/- Contracts: leaves of entries, what shows that a head follows; the law FnExactHedProof, walked: it returns true. -/
import Derived.Test.YtcmmfamippdgbaaT4
import Derived.Test.YtcmmfamippdgbaaA5
import Derived.Test.YtcmmfamippdgbaaFM
namespace Go.Proofs.Ytcmmfamippdgbaa
open Vc

def entLeaf (e : Ent) : Int := mixLeaf [e.kind, e.ticket, e.who, e.price]
end Go.Proofs.Ytcmmfamippdgbaa
