/- Contracts: flat structs in slices: marked, held (written by marks.py). -/
import Derived.Test.YtcmmfamippdgbaaF
import Derived.Test.YtcmmfamippdgbaaA7
import Derived.Test.YtcmmfamippdgbaaV2
import Derived.Test.YtcmmfamippdgbaaA5
namespace Go.Proofs.Ytcmmfamippdgbaa
open Vc

section
variable {P : Program} {w0 : World} {X : List Nat} {N : Nat} {ops : Array Oper} {Q : Exit → Act → World → Prop} {rest : List Oper} {fr : Fr} {L L' : List Res} {d ty : Nat} {ps : String} {af : Array Edge}
variable {α : Type} {E : α → List Value} {sz t i f : Nat} {v u : Value} {x y : Operand} {T : Nat} {p : Addr} {ys : List α} {e e' : α}
theorem Vc.WL.stF1 [Enc E sz] [TCell P T false 1] [hR : CReplO L E sz v t (ys.set i e) (ys.set i e') L'] (hx : ev fr x = some (.pointer (some (p.add f)))) (hy : ev fr y = some u) (hp : PtrOf v (i * sz) p) (hi : i < ys.length) (hf : f < sz) [he : CSet (E e) f u (E e')] (h1 : u.oneCell' = true)
    (kk : WL false P w0 X N ops Q rest fr L') : WL false P w0 X N ops Q (⟨none, .store T x y, ty, ps, af, none⟩ :: rest) fr L :=
  WL.storeF (ys := ys.set i e) (e := e) (e' := e') hx hy hp (by rw [List.set_set]; exact hR.h) (by rw [List.getElem?_set_self hi]) hf he.h h1 kk
end
theorem set_self_ {α : Type} {ys : List α} {i : Nat} {y : α} (h : ys[i]? = some y) : ys.set i y = ys := by
  apply List.ext_getElem?
  intro j
  by_cases hj : i = j
  · subst hj; rw [List.getElem?_set_self (List.getElem?_eq_some_iff.1 h).1, h]
  · rw [List.getElem?_set_ne hj]
end Go.Proofs.Ytcmmfamippdgbaa
