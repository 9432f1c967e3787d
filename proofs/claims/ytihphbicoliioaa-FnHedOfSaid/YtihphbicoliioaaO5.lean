/- Plain laws: rows stay ok. -/
import Derived.Test.YtihphbicoliioaaO2
namespace Go.Proofs.Ytihphbicoliioaa
open Vc

end Go.Proofs.Ytihphbicoliioaa
