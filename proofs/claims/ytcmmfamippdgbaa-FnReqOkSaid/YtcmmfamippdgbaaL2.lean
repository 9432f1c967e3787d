/- The law FnOwnOnce, walked: it returns true. -/
import Derived.Test.YtcmmfamippdgbaaD8
import Derived.Test.YtcmmfamippdgbaaD4
import Derived.Test.YtcmmfamippdgbaaO5
import Derived.Test.YtcmmfamippdgbaaV4
import Derived.Test.YtcmmfamippdgbaaP2
namespace Go.Proofs.Ytcmmfamippdgbaa
open Vc

section
variable {q : Bool} {P : Program} {w0 : World} {X : List Nat} {N : Nat} {ops : Array Oper} {Q : Exit → Act → World → Prop} {rest : List Oper} {fr : Fr} {L : List Res} {d ty : Nat} {ps : String} {af : Array Edge}
theorem Vc.WL.neqbF {x y : Operand} {a b : Bool} {t t' : Nat} [hT : TBool P t] (hx : ev fr x = some (.bool a)) (hy : ev fr y = some (.bool b)) (hN : Nat.ble (d + 1) N = true) (h : a = b)
    (k : WL q P w0 X N ops Q rest ((d, .bool false) :: fr) L) : WL q P w0 X N ops Q (⟨some d, .binOp .neq t x y t', ty, ps, af, none⟩ :: rest) fr L := WL.neqb hx hy hN (by rw [h, beq_self_eq_true]; exact k)
end
end Go.Proofs.Ytcmmfamippdgbaa
