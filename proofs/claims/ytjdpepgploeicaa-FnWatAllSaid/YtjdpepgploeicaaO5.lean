/- Plain laws: rows stay ok. -/
import Derived.Test.YtjdpepgploeicaaO2
namespace Go.Proofs.Ytjdpepgploeicaa
open Vc

end Go.Proofs.Ytjdpepgploeicaa
