/- Contracts: mixed numbers, where leaves are parted, leaves that are ok. -/
import Derived.Test.YtihphbicoliioaaA4
import Derived.Test.YtihphbicoliioaaV2
namespace Go.Proofs.Ytihphbicoliioaa
open Vc

/-- the first n resources -/
class Vc.TopN (n : Nat) (L : List Res) (Ls : outParam (List Res)) : Prop where h : Ls = L.take n
instance {L : List Res} : Vc.TopN 0 L [] := ⟨rfl⟩
instance {n : Nat} {r : Res} {L Ls : List Res} [h : Vc.TopN n L Ls] : Vc.TopN (n + 1) (r :: L) (r :: Ls) := ⟨by rw [h.h]; rfl⟩
theorem Vc.WC.drawsL {P : Program} {w0 : World} {X : List Nat} {N : Nat} {Q : Exit → Act → World → Prop} {fr : Fr} {L : List Res} {id : Nat} {l : List Oper} (hm : P.follows .mixedOrders = true)
    (h : WH P w0 X N l.toArray Q L l.length (Array.replicate l.length false) fr L) : WC P w0 X N Q (Code.region id l.toArray true) fr L := WC.drawsX L hm h

/-- a mixed number -/
def Mx (n : Int) : Prop := 0 ≤ n ∧ n ≤ 65520
theorem Mx.le {n : Int} (h : Mx n) : 0 ≤ n ∧ n ≤ 65520 := h
theorem Mx.inB {n : Int} (h : Mx n) : inB n 0 65520 = true := inB_true.2 h
theorem Mx.of {n : Int} (h : Go.Proofs.Ytihphbicoliioaa.inB n 0 65520 = true) : Mx n := inB_true.1 h
end Go.Proofs.Ytihphbicoliioaa
