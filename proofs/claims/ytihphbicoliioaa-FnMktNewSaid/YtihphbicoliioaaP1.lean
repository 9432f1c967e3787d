/- Plain laws of purses: no program in sight. -/
import Derived.Test.YtihphbicoliioaaB1
namespace Go.Proofs.Ytihphbicoliioaa
open Vc

theorem wrap_fits (n : Int) : -9223372036854775808 ≤ IntKind.i64.wrap n ∧ IntKind.i64.wrap n ≤ 9223372036854775807 := by
  rw [IntKind.wrap_i64]; omega
theorem sumW_fits (xs : List Int) : -9223372036854775808 ≤ sumW xs ∧ sumW xs ≤ 9223372036854775807 := by
  rcases List.eq_nil_or_concat xs with rfl | ⟨ys, y, rfl⟩
  · simp [sumW]
  · unfold sumW; rw [List.concat_eq_append, List.foldl_append]; exact wrap_fits _
end Go.Proofs.Ytihphbicoliioaa
