/- Plain laws of purses: no program in sight. -/
import Derived.Test.YtblmgpdbncihbaaB1
namespace Go.Proofs.Ytblmgpdbncihbaa
open Vc

theorem monOk_list {xs : List Int} (h : monOk xs = true) : ∃ a b c d e, xs = [a, b, c, d, e] ∧ (0 ≤ a ∧ a ≤ 100000) ∧ (0 ≤ b ∧ b ≤ 100000) ∧ (0 ≤ c ∧ c ≤ 100000) ∧ (0 ≤ d ∧ d ≤ 100000) ∧ (0 ≤ e ∧ e ≤ 100000) := by
  have h5 := monOk_len h
  match xs, h5 with
  | [a, b, c, d, e], _ => exact ⟨a, b, c, d, e, rfl, monOk_at h (k := 0) rfl, monOk_at h (k := 1) rfl, monOk_at h (k := 2) rfl, monOk_at h (k := 3) rfl, monOk_at h (k := 4) rfl⟩
theorem sumW_list {a b c d e : Int} (ha : 0 ≤ a ∧ a ≤ 100000) (hb : 0 ≤ b ∧ b ≤ 100000) (hc : 0 ≤ c ∧ c ≤ 100000) (hd : 0 ≤ d ∧ d ≤ 100000) (he : 0 ≤ e ∧ e ≤ 100000) : sumW [a, b, c, d, e] = a + b + c + d + e := by
  simp only [sumW, List.foldl]
  rw [IntWalk.i64_in (0 + a) (by omega), IntWalk.i64_in (0 + a + b) (by omega), IntWalk.i64_in (0 + a + b + c) (by omega), IntWalk.i64_in (0 + a + b + c + d) (by omega), IntWalk.i64_in (0 + a + b + c + d + e) (by omega)]
  omega
theorem wrap_fits (n : Int) : -9223372036854775808 ≤ IntKind.i64.wrap n ∧ IntKind.i64.wrap n ≤ 9223372036854775807 := by
  rw [IntKind.wrap_i64]; omega
theorem sumW_fits (xs : List Int) : -9223372036854775808 ≤ sumW xs ∧ sumW xs ≤ 9223372036854775807 := by
  rcases List.eq_nil_or_concat xs with rfl | ⟨ys, y, rfl⟩
  · simp [sumW]
  · unfold sumW; rw [List.concat_eq_append, List.foldl_append]; exact wrap_fits _
theorem user_cases {u : Int} (h : 1 ≤ u ∧ u ≤ 5) : u = 1 ∨ u = 2 ∨ u = 3 ∨ u = 4 ∨ u = 5 := by omega

theorem monHas_out {xs : List Int} {u : Int} (h : ¬ (1 ≤ u ∧ u ≤ 5)) : monHas xs u = 0 := by
  have : inB u 1 5 = false := inB_false.2 h
  simp [monHas, this]
theorem monHas_bad {xs : List Int} {u : Int} (h : monOk xs = false) : monHas xs u = 0 := by simp [monHas, h]
theorem monHas_list {a b c d e : Int} (h : monOk [a, b, c, d, e] = true) : monHas [a, b, c, d, e] 1 = a ∧ monHas [a, b, c, d, e] 2 = b ∧ monHas [a, b, c, d, e] 3 = c ∧ monHas [a, b, c, d, e] 4 = d ∧ monHas [a, b, c, d, e] 5 = e := by
  refine ⟨?_, ?_, ?_, ?_, ?_⟩ <;> simp [monHas, h, inB]
theorem monHas_fits (xs : List Int) (u : Int) : 0 ≤ monHas xs u ∧ monHas xs u ≤ 100000 := by
  by_cases hu : 1 ≤ u ∧ u ≤ 5
  · cases ho : monOk xs
    · rw [monHas_bad ho]; omega
    · obtain ⟨a, b, c, d, e, rfl, ha, hb, hc, hd, he⟩ := monOk_list ho
      obtain ⟨h1, h2, h3, h4, h5⟩ := monHas_list ho
      rcases user_cases hu with rfl | rfl | rfl | rfl | rfl <;> omega
  · rw [monHas_out hu]; omega
def hasTo (xs : List Int) : Nat → Int
  | 0 => 0
  | k + 1 => hasTo xs k + monHas xs k
theorem hasTo_fits (xs : List Int) (k : Nat) : 0 ≤ hasTo xs k ∧ hasTo xs k ≤ 100000 * k := by
  induction k with
  | zero => simp [hasTo]
  | succ k ih => have := monHas_fits xs k; simp only [hasTo]; omega
theorem hasTo_all (xs : List Int) : hasTo xs 7 = if monOk xs = true then sumW xs else 0 := by
  simp only [hasTo]
  have h0 : monHas xs ((0 : Nat) : Int) = 0 := monHas_out (by omega)
  have h6 : monHas xs ((6 : Nat) : Int) = 0 := monHas_out (by omega)
  cases ho : monOk xs
  · simp [monHas_bad ho]
  · obtain ⟨a, b, c, d, e, rfl, ha, hb, hc, hd, he⟩ := monOk_list ho
    obtain ⟨h1, h2, h3, h4, h5⟩ := monHas_list ho
    rw [h0, h6, if_pos rfl, sumW_list ha hb hc hd he]
    show 0 + 0 + monHas _ (1 : Int) + monHas _ (2 : Int) + monHas _ (3 : Int) + monHas _ (4 : Int) + monHas _ (5 : Int) + 0 = _
    rw [h1, h2, h3, h4, h5]; omega

end Go.Proofs.Ytblmgpdbncihbaa
