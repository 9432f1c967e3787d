/- Contracts: mixed numbers, where leaves are parted, leaves that are ok. -/
import Derived.Test.YtcmmfamippdgbaaA4
import Derived.Test.YtcmmfamippdgbaaV2
namespace Go.Proofs.Ytcmmfamippdgbaa
open Vc

/-- the first n resources -/
class Vc.TopN (n : Nat) (L : List Res) (Ls : outParam (List Res)) : Prop where h : Ls = L.take n
instance {L : List Res} : Vc.TopN 0 L [] := ⟨rfl⟩
instance {n : Nat} {r : Res} {L Ls : List Res} [h : Vc.TopN n L Ls] : Vc.TopN (n + 1) (r :: L) (r :: Ls) := ⟨by rw [h.h]; rfl⟩
/-- a mixed number -/
def Mx (n : Int) : Prop := 0 ≤ n ∧ n ≤ 65520
theorem Mx.le {n : Int} (h : Mx n) : 0 ≤ n ∧ n ≤ 65520 := h
theorem Mx.inB {n : Int} (h : Mx n) : inB n 0 65520 = true := inB_true.2 h
theorem Mx.of {n : Int} (h : Go.Proofs.Ytcmmfamippdgbaa.inB n 0 65520 = true) : Mx n := inB_true.1 h
def mixP (a b : Int) : Int := (a * 8191 + b * 127 + a * b + 31) % 65521
def spl (n : Int) : Int := if n ≤ 2 then 1 else if n ≤ 4 then 2 else if n ≤ 8 then 4 else if n ≤ 16 then 8 else if n ≤ 32 then 16 else 32
end Go.Proofs.Ytcmmfamippdgbaa
