/- Contracts: gates; GatOk, the program's and the reference's. -/
import Derived.Test.YtcmmfamippdgbaaA9
namespace Go.Proofs.Ytcmmfamippdgbaa
open Vc

@[reducible] def gatE (h : Hed) (v : Value) : List Value := [.int .i64 h.size, .int .i64 h.log, .int .i64 h.own, v]
def gatBad (xs : List Int) (k : Nat) : Bool :=
  match xs[k]? with
  | none => false
  | some y => !inB y 0 7 || (decide (0 < k) && match xs[((k : Int) - 1).toNat]? with | some z => decide (y ≤ z) | none => false)
def gatTo (xs : List Int) (k : Nat) : Bool := (List.range k).all (fun i => !gatBad xs i)
def gatOk (h : Hed) (xs : List Int) : Bool := hedOk h && gatTo xs xs.length
theorem gatTo_succ {xs : List Int} {k : Nat} (h : gatTo xs k = true) (hb : gatBad xs k = false) : gatTo xs (k + 1) = true := by
  simp only [gatTo, List.range_succ, List.all_append, List.all_cons, List.all_nil, Bool.and_true, Bool.and_eq_true] at *
  exact ⟨h, by rw [hb]; rfl⟩
theorem gatTo_no {xs : List Int} {k : Nat} (hk : k < xs.length) (hb : gatBad xs k = true) : gatTo xs xs.length = false := by
  rw [gatTo, List.all_eq_false]
  exact ⟨k, List.mem_range.2 hk, by simp [hb]⟩
theorem gatBad_1 {xs : List Int} {k : Nat} {y : Int} (hy : xs[k]? = some y) (h : inB y 0 7 = false) : gatBad xs k = true := by simp [gatBad, hy, h]
theorem gatBad_2 {xs : List Int} {k : Nat} {y : Int} (hy : xs[k]? = some y) (h : inB y 0 7 = true) (h0 : ¬ 0 < k) : gatBad xs k = false := by simp [gatBad, hy, h, h0]
theorem gatBad_3 {xs : List Int} {k : Nat} {y z : Int} (hy : xs[k]? = some y) (h : inB y 0 7 = true) (h0 : 0 < k) (hz : xs[((k : Int) - 1).toNat]? = some z) : gatBad xs k = decide (y ≤ z) := by
  simp only [gatBad, hy, h, hz]; simp [h0]
end Go.Proofs.Ytcmmfamippdgbaa
