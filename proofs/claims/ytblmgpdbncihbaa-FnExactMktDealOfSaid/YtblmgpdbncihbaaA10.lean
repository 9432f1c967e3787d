/- Contracts: WatMeet of the reference. -/
import Derived.Test.YtblmgpdbncihbaaA9
namespace Go.Proofs.Ytblmgpdbncihbaa
open Vc

end Go.Proofs.Ytblmgpdbncihbaa
