/- Plain laws: proofs of leaves lead to the root; proofs that the first leaves are the beginning lead to both roots; who shows another leaf has found a clash. -/
import Derived.Test.YtjdpepgploeicaaT6
import Derived.Test.YtjdpepgploeicaaT3
import Derived.Test.YtjdpepgploeicaaO4
namespace Go.Proofs.Ytjdpepgploeicaa
open Vc

/-! ## another leaf shown -/
/-! ## the beginning shown -/
end Go.Proofs.Ytjdpepgploeicaa
