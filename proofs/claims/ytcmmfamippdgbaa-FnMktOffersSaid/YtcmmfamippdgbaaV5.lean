/- More rules of the calculus: drawing regions, quicker. -/
import Derived.Test.YtcmmfamippdgbaaV2
namespace Go.Proofs.Ytcmmfamippdgbaa.Vc
open Go.RowKit

/-- what a panic's end holds does not hang on a slot -/
def PanicOk (Q : Exit → Act → World → Prop) : Prop := ∀ c a d v w, Q (.panic c) (a.put d v) w → Q (.panic c) a w
section
variable {P : Program} {w0 : World} {X : List Nat} {N : Nat} {ops : Array Oper} {Q : Exit → Act → World → Prop} {fr : Fr} {L Ls : List Res} {f : Nat} {l : Array Bool}
theorem PanicOk.then_ {K : Act → World → Prop} (h : PanicOk Q) : PanicOk (Exit.then K Q) := fun c a d v w h' => h c a d v w h'
theorem PanicOk.block {id : Nat} (h : PanicOk Q) : PanicOk (Exit.inBlock id Q) := fun c a d v w h' => h c a d v w h'
theorem WH.quietD (i : Nat) {o : Oper} (hf : (Region.noSelect ops && Region.free .any ops l i && (Region.ready .any ops l).contains i) = true) (hi : ops[i]? = some o) (hQ : PanicOk Q) (hL : Ls.Sublist L)
    (h : WL true P w0 X N ops (fun _ a' _ => ∃ fr', As N fr' a' ∧ WH P w0 X N ops Q Ls f (l.setIfInBounds i true) fr' L) [o] fr Ls) : WH P w0 X N ops Q Ls (f + 1) l fr L := WH.quiet i hL hf hi hQ h
theorem WH.runD (i : Nat) {o : Oper} (hr : Region.ready .any ops l = [i]) (hi : ops[i]? = some o) (hL : Ls.Sublist L)
    (h : WL false P w0 X N ops (AnyQ (fun w => St w0 X w Ls) P ops Q f (l.setIfInBounds i true)) [o] fr L) : WH P w0 X N ops Q Ls (f + 1) l fr L := WH.run i hL hr hi h
theorem WH.doneD (hr : Region.ready .any ops l = []) (hL : Ls.Sublist L) (h : WQ w0 X N Q .normal fr L) : WH P w0 X N ops Q Ls f l fr L := WH.done hL hr h
end
end Go.Proofs.Ytcmmfamippdgbaa.Vc

namespace Go.Proofs.Ytcmmfamippdgbaa.Vc
open Go.RowKit

class HasVwA (L : List Res) (v : Value) (α : outParam Type) (E : outParam (α → List Value)) (sz : outParam Nat) (ys : outParam (List α)) : Prop where h : ∃ i : Enc E sz, @vw α E sz i v ys ∈ L
instance (priority := 2000) {L : List Res} {v : Value} {α : Type} {E : α → List Value} {sz : Nat} {ys : List α} [i : Enc E sz] : HasVwA (vw E sz v ys :: L) v α E sz ys := ⟨i, m0⟩
instance {L : List Res} {r : Res} {v : Value} {α : Type} {E : α → List Value} {sz : Nat} {ys : List α} [h : HasVwA L v α E sz ys] : HasVwA (r :: L) v α E sz ys := ⟨h.h.elim fun i h => ⟨i, ms h⟩⟩
theorem Sl.va {w0 w : World} {X : List Nat} {L : List Res} {v : Value} {α : Type} {E : α → List Value} {sz : Nat} {ys : List α} [hO : HasVwA L v α E sz ys] (h : St w0 X w L) : Sl E sz v ys w := by
  obtain ⟨i, hm⟩ := hO.h
  exact (vw_holds.1 (h.res _ hm)).1
section
variable {q : Bool} {P : Program} {w0 : World} {X : List Nat} {N : Nat} {ops : Array Oper} {Q : Exit → Act → World → Prop} {rest : List Oper} {fr : Fr} {L L' : List Res} {d ty : Nat} {ps : String} {af : Array Edge}
variable {α : Type} {E : α → List Value} {sz : Nat} {v u : Value} {ys : List α} {T e bw : Nat} {zs : List Value} {x i : Operand} {p : Addr} {k f : Nat} {ee : α}
/-! a view's own -/
theorem WL.lenV {sz' : Nat} [TSlice P T e sz' bw zs] [hO : HasVwA L v α E sz ys] (hx : ev fr x = some v) (hN : Nat.ble (d + 1) N = true) (k : WL q P w0 X N ops Q rest ((d, .int .i64 (ys.length : Int)) :: fr) L) :
    WL q P w0 X N ops Q (⟨some d, .call { callee := .builtin .len, args := #[x], argTypes := #[T] }, ty, ps, af, none⟩ :: rest) fr L := WL.len hx (fun _ h => Sl.va h) hN k
theorem WL.ixNV {n : Nat} [TSlice P T e sz bw zs] [hO : HasVwA L v α E sz ys] (hx : ev fr x = some v) (hi : ev fr i = some (.int .i64 (n : Int))) (hb : n < ys.length) (hN : Nat.ble (d + 1) N = true)
    (k : ∀ p : Addr, PtrOf v (n * sz) p → WL q P w0 X N ops Q rest ((d, .pointer (some p)) :: fr) L) : WL q P w0 X N ops Q (⟨some d, .indexAddr T x i, ty, ps, af, none⟩ :: rest) fr L := WL.indexN hx hi (fun _ h => Sl.va h) hb hN k
theorem WL.ixV {n : Int} [TSlice P T e sz bw zs] [hO : HasVwA L v α E sz ys] (hx : ev fr x = some v) (hi : ev fr i = some (.int .i64 n)) (hb : 0 ≤ n ∧ n < ys.length) (hN : Nat.ble (d + 1) N = true)
    (k : ∀ p : Addr, PtrOf v (n.toNat * sz) p → WL q P w0 X N ops Q rest ((d, .pointer (some p)) :: fr) L) : WL q P w0 X N ops Q (⟨some d, .indexAddr T x i, ty, ps, af, none⟩ :: rest) fr L := WL.index hx hi (fun _ h => Sl.va h) hb hN k
theorem WL.ld0V [Enc E sz] [TCell P T false 1] [hO : HasVwA L v α E sz ys] (hx : ev fr x = some (.pointer (some p))) (hp : PtrOf v (k * sz) p) (hy : ys[k]? = some ee) (hu : (E ee)[0]? = some u) (hN : Nat.ble (d + 1) N = true) (kk : WL q P w0 X N ops Q rest ((d, u) :: fr) L) :
    WL q P w0 X N ops Q (⟨some d, .load T x, ty, ps, af, none⟩ :: rest) fr L := WL.load0 hx hp (fun _ h => Sl.va h) hy hu hN kk
theorem WL.ldFV [Enc E sz] [TCell P T false 1] [hO : HasVwA L v α E sz ys] (hx : ev fr x = some (.pointer (some (p.add f)))) (hp : PtrOf v (k * sz) p) (hy : ys[k]? = some ee) (hu : (E ee)[f]? = some u) (hN : Nat.ble (d + 1) N = true) (kk : WL q P w0 X N ops Q rest ((d, u) :: fr) L) :
    WL q P w0 X N ops Q (⟨some d, .load T x, ty, ps, af, none⟩ :: rest) fr L := WL.loadF hx hp (fun _ h => Sl.va h) hy hu hN kk
theorem WL.ldEV [Enc E sz] [TCell P T true sz] [hO : HasVwA L v α E sz ys] (hx : ev fr x = some (.pointer (some p))) (hp : PtrOf v (k * sz) p) (hy : ys[k]? = some ee) (hN : Nat.ble (d + 1) N = true) (kk : WL q P w0 X N ops Q rest ((d, .agg (E ee).toArray) :: fr) L) :
    WL q P w0 X N ops Q (⟨some d, .load T x, ty, ps, af, none⟩ :: rest) fr L := WL.loadE hx hp (fun _ h => Sl.va h) hy hN kk
end
end Go.Proofs.Ytcmmfamippdgbaa.Vc

namespace Go.Proofs.Ytcmmfamippdgbaa.Vc
open Go.RowKit

/-- a goal that no rule of the walk meets -/
@[irreducible] def Mark (p : Prop) : Prop := p
theorem Mark.go {p : Prop} (h : p) : Mark p := by unfold Mark; exact h
theorem Mark.out {p : Prop} (h : Mark p) : p := by unfold Mark at h; exact h
section
variable {P : Program} {w0 : World} {X : List Nat} {N : Nat} {Q : Exit → Act → World → Prop} {fr : Fr} {L : List Res}
theorem WC.stop (t : Nat) {x y : Code} (h : Mark (WC P w0 X N Q (Code.cond (.tmp t) x y) fr L)) : WC P w0 X N Q (Code.cond (.tmp t) x y) fr L := h.out
/-- the ways through c meet again: behind it the slots ks are as they were, 'up' tells the others -/
theorem WC.join {A : Type} (ks : List Nat) (G : A → Prop) (up : A → Fr) (LI : A → List Res) {c : Code} {fr0 : Fr} (_hk : Pick fr ks fr0)
    (h1 : WC P w0 X N (Exit.then (Inv G (fun x => up x ++ fr0) LI w0 X N (fun _ => True)) Q) c fr L)
    (h2 : ∀ y, G y → WQ w0 X N Q .normal (up y ++ fr0) (LI y)) : WC P w0 X N Q c fr L := by
  unfold WC at h1 ⊢
  intro a w ha hs
  refine wp_mono (h1 a w ha hs) (fun e a' w' h => ?_)
  cases e with
  | normal =>
    obtain ⟨y, hG, _, ha', hs'⟩ := h.ex
    have := h2 y hG
    unfold WQ at this
    exact this a' w' ha' hs'
  | _ => exact h
end
end Go.Proofs.Ytcmmfamippdgbaa.Vc
