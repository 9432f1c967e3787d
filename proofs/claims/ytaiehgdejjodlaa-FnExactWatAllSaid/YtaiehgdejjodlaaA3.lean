/- Contracts: slices of numbers: copied, compared, added up; and the law FnExactMonSum. -/
import Derived.Test.YtaiehgdejjodlaaA2
namespace Go.Proofs.Ytaiehgdejjodlaa
open Vc

end Go.Proofs.Ytaiehgdejjodlaa
