/- Contracts: heads drawn. -/
import Derived.Test.YtcmmfamippdgbaaD8
import Derived.Test.YtcmmfamippdgbaaL2
import Derived.Test.YtcmmfamippdgbaaO3
namespace Go.Proofs.Ytcmmfamippdgbaa
open Vc

class Vc.Init2 (L : List Res) (Ls : outParam (List Res)) : Prop where h : Ls.Sublist L
instance {a b : Res} : Vc.Init2 [a, b] [] := ⟨List.nil_sublist _⟩
instance {r s t : Res} {L Ls : List Res} [h : Vc.Init2 (s :: t :: L) Ls] : Vc.Init2 (r :: s :: t :: L) (r :: Ls) := ⟨h.h.cons_cons _⟩
end Go.Proofs.Ytcmmfamippdgbaa
