/- Contracts of the small functions on numbers: ranges, heads, requests. -/
import Derived.Test.YtblmgpdbncihbaaTypes
namespace Go.Proofs.Ytblmgpdbncihbaa
open Vc

def inB (n lo hi : Int) : Bool := decide (lo ≤ n) && decide (n ≤ hi)
theorem inB_true {n lo hi : Int} : inB n lo hi = true ↔ lo ≤ n ∧ n ≤ hi := by simp [inB]
/-! ## heads -/
structure Hed where
  size : Int
  log : Int
  own : Int
  deriving DecidableEq
@[reducible] def hedE (h : Hed) : List Value := [.int .i64 h.size, .int .i64 h.log, .int .i64 h.own]
instance : Enc hedE 3 := ⟨fun _ => rfl, fun _ => rfl, by omega⟩
end Go.Proofs.Ytblmgpdbncihbaa
