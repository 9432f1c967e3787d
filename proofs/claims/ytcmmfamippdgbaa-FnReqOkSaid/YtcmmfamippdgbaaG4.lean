/- Gates in slices: marked; the law FnExactGatThrough, walked: it returns true. -/
import Derived.Test.YtcmmfamippdgbaaG3
import Derived.Test.YtcmmfamippdgbaaA5
import Derived.Test.YtcmmfamippdgbaaFM
namespace Go.Proofs.Ytcmmfamippdgbaa
open Vc

section
variable {q : Bool} {P : Program} {w0 : World} {X : List Nat} {N : Nat} {ops : Array Oper} {Q : Exit → Act → World → Prop} {rest : List Oper} {fr : Fr} {L L' : List Res} {d ty : Nat} {ps : String} {af : Array Edge}
variable {α : Type} {E : α → List Value} {sz t i f a : Nat} {v u : Value} {x y : Operand} {T : Nat} {p : Addr} {ys : List α} {e e' : α}
theorem Vc.WC.toL {c : Code} (hL : ∀ w, Vc.St w0 X w L → Vc.St w0 X w L') (h : WC P w0 X N Q c fr L') : WC P w0 X N Q c fr L := by
  unfold Vc.WC at h ⊢
  exact fun a w ha hs => h a w ha (hL w hs)
end
end Go.Proofs.Ytcmmfamippdgbaa
