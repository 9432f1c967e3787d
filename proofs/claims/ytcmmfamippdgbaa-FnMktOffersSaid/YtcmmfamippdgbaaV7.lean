/- More rules of the calculus: ways that meet behind a region or a condition. -/
import Derived.Test.YtcmmfamippdgbaaV6
namespace Go.Proofs.Ytcmmfamippdgbaa.Vc
open Go.RowKit
section
variable {P : Program} {w0 : World} {X : List Nat} {N : Nat} {Q : Exit → Act → World → Prop} {fr fr0 : Fr} {L : List Res}
theorem WC.stopR (id : Nat) {l : Array Oper} {b : Bool} (h : Mark (WC P w0 X N Q (Code.region id l b) fr L)) : WC P w0 X N Q (Code.region id l b) fr L := h.out
/-- the ways through a region that does not draw meet behind it -/
theorem WC.joinS (id : Nat) {A : Type} (ks : List Nat) (G : A → Prop) (up : A → Fr) (LI : A → List Res) {l : List Oper} (hk : Pick fr ks fr0)
    (h1 : WL false P w0 X N l.toArray (Exit.then (Inv G (fun x => up x ++ fr0) LI w0 X N (fun _ => True)) Q) l fr L)
    (h2 : ∀ y, G y → WQ w0 X N Q .normal (up y ++ fr0) (LI y)) : WC P w0 X N Q (Code.region id l.toArray false) fr L := WC.join ks G up LI hk (WC.region h1) h2
/-- the two ways of a condition meet behind it -/
theorem WC.joinC (t : Nat) {A : Type} (ks : List Nat) (G : A → Prop) (up : A → Fr) (LI : A → List Res) {x y : Code} {b : Bool} (hc : ev fr (.tmp t) = some (.bool b)) (hk : Pick fr ks fr0)
    (ht : b = true → WC P w0 X N (Exit.then (Inv G (fun x => up x ++ fr0) LI w0 X N (fun _ => True)) Q) x fr L)
    (hf : b = false → WC P w0 X N (Exit.then (Inv G (fun x => up x ++ fr0) LI w0 X N (fun _ => True)) Q) y fr L)
    (h2 : ∀ z, G z → WQ w0 X N Q .normal (up z ++ fr0) (LI z)) : WC P w0 X N Q (Code.cond (.tmp t) x y) fr L := WC.join ks G up LI hk (WC.cond hc ht hf) h2
end
end Go.Proofs.Ytcmmfamippdgbaa.Vc
