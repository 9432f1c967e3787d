/- The law FnExactMonTurn, walked: it returns true. -/
import Derived.Test.YtblmgpdbncihbaaA5
namespace Go.Proofs.Ytblmgpdbncihbaa
open Vc

end Go.Proofs.Ytblmgpdbncihbaa
