/- Contracts: slices of numbers: copied, compared, added up; and the law FnExactMonSum. -/
import Derived.Test.YtihphbicoliioaaA2
namespace Go.Proofs.Ytihphbicoliioaa
open Vc

end Go.Proofs.Ytihphbicoliioaa
