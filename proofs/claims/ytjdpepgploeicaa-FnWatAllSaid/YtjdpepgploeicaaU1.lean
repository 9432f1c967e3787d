/- Contracts: what a proof leads to; who shows another leaf. -/
import Derived.Test.YtjdpepgploeicaaP3
namespace Go.Proofs.Ytjdpepgploeicaa
open Vc

/-! ## who shows another leaf -/
end Go.Proofs.Ytjdpepgploeicaa
