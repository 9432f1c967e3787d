/- The law FnExactWatMeet, walked: it returns true. -/
import Derived.Test.YtblmgpdbncihbaaA10
namespace Go.Proofs.Ytblmgpdbncihbaa
open Vc

end Go.Proofs.Ytblmgpdbncihbaa
