/- More rules of the calculus: views read in place. -/
import Derived.Test.YtcmmfamippdgbaaV3
namespace Go.Proofs.Ytcmmfamippdgbaa.Vc
open Go.RowKit

class HasVwA (L : List Res) (v : Value) (α : outParam Type) (E : outParam (α → List Value)) (sz : outParam Nat) (ys : outParam (List α)) : Prop where h : ∃ i : Enc E sz, @vw α E sz i v ys ∈ L
instance (priority := 2000) {L : List Res} {v : Value} {α : Type} {E : α → List Value} {sz : Nat} {ys : List α} [i : Enc E sz] : HasVwA (vw E sz v ys :: L) v α E sz ys := ⟨i, m0⟩
instance {L : List Res} {r : Res} {v : Value} {α : Type} {E : α → List Value} {sz : Nat} {ys : List α} [h : HasVwA L v α E sz ys] : HasVwA (r :: L) v α E sz ys := ⟨h.h.elim fun i h => ⟨i, ms h⟩⟩
theorem Sl.va {w0 w : World} {X : List Nat} {L : List Res} {v : Value} {α : Type} {E : α → List Value} {sz : Nat} {ys : List α} [hO : HasVwA L v α E sz ys] (h : St w0 X w L) : Sl E sz v ys w := by
  obtain ⟨i, hm⟩ := hO.h
  exact (vw_holds.1 (h.res _ hm)).1
section
variable {q : Bool} {P : Program} {w0 : World} {X : List Nat} {N : Nat} {ops : Array Oper} {Q : Exit → Act → World → Prop} {rest : List Oper} {fr : Fr} {L L' : List Res} {d ty : Nat} {ps : String} {af : Array Edge}
variable {α : Type} {E : α → List Value} {sz : Nat} {v u : Value} {ys : List α} {T e bw : Nat} {zs : List Value} {x i : Operand} {p : Addr} {k f : Nat} {ee : α}
/-! a view's own -/
theorem WL.lenV {sz' : Nat} [TSlice P T e sz' bw zs] [hO : HasVwA L v α E sz ys] (hx : ev fr x = some v) (hN : Nat.ble (d + 1) N = true) (k : WL q P w0 X N ops Q rest ((d, .int .i64 (ys.length : Int)) :: fr) L) :
    WL q P w0 X N ops Q (⟨some d, .call { callee := .builtin .len, args := #[x], argTypes := #[T] }, ty, ps, af, none⟩ :: rest) fr L := WL.len hx (fun _ h => Sl.va h) hN k
theorem WL.ixNV {n : Nat} [TSlice P T e sz bw zs] [hO : HasVwA L v α E sz ys] (hx : ev fr x = some v) (hi : ev fr i = some (.int .i64 (n : Int))) (hb : n < ys.length) (hN : Nat.ble (d + 1) N = true)
    (k : ∀ p : Addr, PtrOf v (n * sz) p → WL q P w0 X N ops Q rest ((d, .pointer (some p)) :: fr) L) : WL q P w0 X N ops Q (⟨some d, .indexAddr T x i, ty, ps, af, none⟩ :: rest) fr L := WL.indexN hx hi (fun _ h => Sl.va h) hb hN k
theorem WL.ixV {n : Int} [TSlice P T e sz bw zs] [hO : HasVwA L v α E sz ys] (hx : ev fr x = some v) (hi : ev fr i = some (.int .i64 n)) (hb : 0 ≤ n ∧ n < ys.length) (hN : Nat.ble (d + 1) N = true)
    (k : ∀ p : Addr, PtrOf v (n.toNat * sz) p → WL q P w0 X N ops Q rest ((d, .pointer (some p)) :: fr) L) : WL q P w0 X N ops Q (⟨some d, .indexAddr T x i, ty, ps, af, none⟩ :: rest) fr L := WL.index hx hi (fun _ h => Sl.va h) hb hN k
theorem WL.ld0V [Enc E sz] [TCell P T false 1] [hO : HasVwA L v α E sz ys] (hx : ev fr x = some (.pointer (some p))) (hp : PtrOf v (k * sz) p) (hy : ys[k]? = some ee) (hu : (E ee)[0]? = some u) (hN : Nat.ble (d + 1) N = true) (kk : WL q P w0 X N ops Q rest ((d, u) :: fr) L) :
    WL q P w0 X N ops Q (⟨some d, .load T x, ty, ps, af, none⟩ :: rest) fr L := WL.load0 hx hp (fun _ h => Sl.va h) hy hu hN kk
theorem WL.ldFV [Enc E sz] [TCell P T false 1] [hO : HasVwA L v α E sz ys] (hx : ev fr x = some (.pointer (some (p.add f)))) (hp : PtrOf v (k * sz) p) (hy : ys[k]? = some ee) (hu : (E ee)[f]? = some u) (hN : Nat.ble (d + 1) N = true) (kk : WL q P w0 X N ops Q rest ((d, u) :: fr) L) :
    WL q P w0 X N ops Q (⟨some d, .load T x, ty, ps, af, none⟩ :: rest) fr L := WL.loadF hx hp (fun _ h => Sl.va h) hy hu hN kk
theorem WL.ldEV [Enc E sz] [TCell P T true sz] [hO : HasVwA L v α E sz ys] (hx : ev fr x = some (.pointer (some p))) (hp : PtrOf v (k * sz) p) (hy : ys[k]? = some ee) (hN : Nat.ble (d + 1) N = true) (kk : WL q P w0 X N ops Q rest ((d, .agg (E ee).toArray) :: fr) L) :
    WL q P w0 X N ops Q (⟨some d, .load T x, ty, ps, af, none⟩ :: rest) fr L := WL.loadE hx hp (fun _ h => Sl.va h) hy hN kk
end
end Go.Proofs.Ytcmmfamippdgbaa.Vc
