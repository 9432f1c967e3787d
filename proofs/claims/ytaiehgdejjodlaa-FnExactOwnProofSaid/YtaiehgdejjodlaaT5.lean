/- Contracts: proofs that the first leaves are the beginning; leaves of entries; the law FnExactHedProof. -/
import Derived.Test.YtaiehgdejjodlaaT4
import Derived.Test.YtaiehgdejjodlaaA6
import Derived.Test.YtaiehgdejjodlaaFM
namespace Go.Proofs.Ytaiehgdejjodlaa
open Vc

end Go.Proofs.Ytaiehgdejjodlaa
