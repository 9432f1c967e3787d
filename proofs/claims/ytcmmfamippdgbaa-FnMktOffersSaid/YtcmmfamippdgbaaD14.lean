/- Contracts: what the laws of gates draw. -/
import Derived.Test.YtcmmfamippdgbaaD9
import Derived.Test.YtcmmfamippdgbaaO3
import Derived.Test.YtcmmfamippdgbaaA9
import Derived.Test.YtcmmfamippdgbaaV7
import Derived.Test.YtcmmfamippdgbaaH3
import Derived.Test.YtcmmfamippdgbaaG4
namespace Go.Proofs.Ytcmmfamippdgbaa
open Vc

section
variable {P : Program} {w0 : World} {X : List Nat} {N : Nat} {Q : Exit → Act → World → Prop} {fr fr0 : Fr} {L : List Res}
/-- the ways through c meet behind it; what comes there is of no matter for them -/
theorem Vc.WC.absR {A : Type} (ks : List Nat) (G : A → Prop) (up : A → Fr) (LI : A → List Res) {c : Code} (hk : Pick fr ks fr0) (hp : PanicOk Q)
    (h1 : ∀ Q', PanicOk Q' → WC P w0 X N (Exit.then (Inv G (fun x => up x ++ fr0) LI w0 X N (fun _ => True)) Q') c fr L)
    (h2 : ∀ y, G y → WQ w0 X N Q .normal (up y ++ fr0) (LI y)) : WC P w0 X N Q c fr L := WC.join ks G up LI hk (h1 Q hp) h2
end
attribute [local irreducible] Vc.WH
end Go.Proofs.Ytcmmfamippdgbaa
