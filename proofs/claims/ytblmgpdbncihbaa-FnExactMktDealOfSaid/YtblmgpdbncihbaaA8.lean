/- Contracts: WatOk, the program's and the reference's; the law FnExactWatOk, walked: it returns true. -/
import Derived.Test.YtblmgpdbncihbaaA7
namespace Go.Proofs.Ytblmgpdbncihbaa
open Vc

end Go.Proofs.Ytblmgpdbncihbaa
