/- More rules of the calculus: views read in place. -/
import Derived.Test.YtcmmfamippdgbaaV3
namespace Go.Proofs.Ytcmmfamippdgbaa.Vc
open Go.RowKit

class HasVwA (L : List Res) (v : Value) (α : outParam Type) (E : outParam (α → List Value)) (sz : outParam Nat) (ys : outParam (List α)) : Prop where h : ∃ i : Enc E sz, @vw α E sz i v ys ∈ L
instance (priority := 2000) {L : List Res} {v : Value} {α : Type} {E : α → List Value} {sz : Nat} {ys : List α} [i : Enc E sz] : HasVwA (vw E sz v ys :: L) v α E sz ys := ⟨i, m0⟩
instance {L : List Res} {r : Res} {v : Value} {α : Type} {E : α → List Value} {sz : Nat} {ys : List α} [h : HasVwA L v α E sz ys] : HasVwA (r :: L) v α E sz ys := ⟨h.h.elim fun i h => ⟨i, ms h⟩⟩
section
variable {q : Bool} {P : Program} {w0 : World} {X : List Nat} {N : Nat} {ops : Array Oper} {Q : Exit → Act → World → Prop} {rest : List Oper} {fr : Fr} {L L' : List Res} {d ty : Nat} {ps : String} {af : Array Edge}
variable {α : Type} {E : α → List Value} {sz : Nat} {v u : Value} {ys : List α} {T e bw : Nat} {zs : List Value} {x i : Operand} {p : Addr} {k f : Nat} {ee : α}
/-! a view's own -/
end
end Go.Proofs.Ytcmmfamippdgbaa.Vc
