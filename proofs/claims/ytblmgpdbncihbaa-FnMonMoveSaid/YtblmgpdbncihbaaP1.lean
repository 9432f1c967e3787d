/- Plain laws of purses: no program in sight. -/
import Derived.Test.YtblmgpdbncihbaaB1
namespace Go.Proofs.Ytblmgpdbncihbaa
open Vc

theorem monOk_list {xs : List Int} (h : monOk xs = true) : ∃ a b c d e, xs = [a, b, c, d, e] ∧ (0 ≤ a ∧ a ≤ 100000) ∧ (0 ≤ b ∧ b ≤ 100000) ∧ (0 ≤ c ∧ c ≤ 100000) ∧ (0 ≤ d ∧ d ≤ 100000) ∧ (0 ≤ e ∧ e ≤ 100000) := by
  have h5 := monOk_len h
  match xs, h5 with
  | [a, b, c, d, e], _ => exact ⟨a, b, c, d, e, rfl, monOk_at h (k := 0) rfl, monOk_at h (k := 1) rfl, monOk_at h (k := 2) rfl, monOk_at h (k := 3) rfl, monOk_at h (k := 4) rfl⟩
theorem monOk_of {a b c d e : Int} (ha : 0 ≤ a ∧ a ≤ 100000) (hb : 0 ≤ b ∧ b ≤ 100000) (hc : 0 ≤ c ∧ c ≤ 100000) (hd : 0 ≤ d ∧ d ≤ 100000) (he : 0 ≤ e ∧ e ≤ 100000) : monOk [a, b, c, d, e] = true := by
  simp [monOk, inB, ha, hb, hc, hd, he]
theorem sumW_list {a b c d e : Int} (ha : 0 ≤ a ∧ a ≤ 100000) (hb : 0 ≤ b ∧ b ≤ 100000) (hc : 0 ≤ c ∧ c ≤ 100000) (hd : 0 ≤ d ∧ d ≤ 100000) (he : 0 ≤ e ∧ e ≤ 100000) : sumW [a, b, c, d, e] = a + b + c + d + e := by
  simp only [sumW, List.foldl]
  rw [IntWalk.i64_in (0 + a) (by omega), IntWalk.i64_in (0 + a + b) (by omega), IntWalk.i64_in (0 + a + b + c) (by omega), IntWalk.i64_in (0 + a + b + c + d) (by omega), IntWalk.i64_in (0 + a + b + c + d + e) (by omega)]
  omega
theorem user_cases {u : Int} (h : 1 ≤ u ∧ u ≤ 5) : u = 1 ∨ u = 2 ∨ u = 3 ∨ u = 4 ∨ u = 5 := by omega

theorem monHas_out {xs : List Int} {u : Int} (h : ¬ (1 ≤ u ∧ u ≤ 5)) : monHas xs u = 0 := by
  have : inB u 1 5 = false := inB_false.2 h
  simp [monHas, this]
theorem monHas_bad {xs : List Int} {u : Int} (h : monOk xs = false) : monHas xs u = 0 := by simp [monHas, h]
theorem monHas_list {a b c d e : Int} (h : monOk [a, b, c, d, e] = true) : monHas [a, b, c, d, e] 1 = a ∧ monHas [a, b, c, d, e] 2 = b ∧ monHas [a, b, c, d, e] 3 = c ∧ monHas [a, b, c, d, e] 4 = d ∧ monHas [a, b, c, d, e] 5 = e := by
  refine ⟨?_, ?_, ?_, ?_, ?_⟩ <;> simp [monHas, h, inB]
theorem monHas_fits (xs : List Int) (u : Int) : 0 ≤ monHas xs u ∧ monHas xs u ≤ 100000 := by
  by_cases hu : 1 ≤ u ∧ u ≤ 5
  · cases ho : monOk xs
    · rw [monHas_bad ho]; omega
    · obtain ⟨a, b, c, d, e, rfl, ha, hb, hc, hd, he⟩ := monOk_list ho
      obtain ⟨h1, h2, h3, h4, h5⟩ := monHas_list ho
      rcases user_cases hu with rfl | rfl | rfl | rfl | rfl <;> omega
  · rw [monHas_out hu]; omega
theorem monTurn_list {a b c d e who n : Int} (h : (monTurn [a, b, c, d, e] who n).2 = true) : monOk [a, b, c, d, e] = true ∧ (-100000 ≤ n ∧ n ≤ 100000) ∧
    ((who = 1 ∧ (0 ≤ a + n ∧ a + n ≤ 100000) ∧ (monTurn [a, b, c, d, e] who n).1 = [a + n, b, c, d, e]) ∨ (who = 2 ∧ (0 ≤ b + n ∧ b + n ≤ 100000) ∧ (monTurn [a, b, c, d, e] who n).1 = [a, b + n, c, d, e]) ∨
     (who = 3 ∧ (0 ≤ c + n ∧ c + n ≤ 100000) ∧ (monTurn [a, b, c, d, e] who n).1 = [a, b, c + n, d, e]) ∨ (who = 4 ∧ (0 ≤ d + n ∧ d + n ≤ 100000) ∧ (monTurn [a, b, c, d, e] who n).1 = [a, b, c, d + n, e]) ∨
     (who = 5 ∧ (0 ≤ e + n ∧ e + n ≤ 100000) ∧ (monTurn [a, b, c, d, e] who n).1 = [a, b, c, d, e + n])) := by
  unfold monTurn at h ⊢
  split at h
  · rename_i hc
    obtain ⟨h1, h2, h3, h4⟩ := hc
    rw [if_pos ⟨h1, h2, h3, h4⟩]
    refine ⟨h1, inB_true.1 h3, ?_⟩
    rcases user_cases (inB_true.1 h2) with rfl | rfl | rfl | rfl | rfl <;> simp at h4 ⊢ <;> exact inB_true.1 h4
  · cases h
theorem monTurn_yes' {xs : List Int} {who n y : Int} (ho : monOk xs = true) (hw : 1 ≤ who ∧ who ≤ 5) (hn : -100000 ≤ n ∧ n ≤ 100000) (hy : xs[(who - 1).toNat]? = some y) (hr : 0 ≤ y + n ∧ y + n ≤ 100000) : monTurn xs who n = (xs.set (who - 1).toNat (y + n), true) :=
  monTurn_yes ho (inB_true.2 hw) (inB_true.2 hn) hy (inB_true.2 hr)
theorem monTurn_ok {xs : List Int} {who n : Int} (h : (monTurn xs who n).2 = true) : monOk xs = true := by
  unfold monTurn at h
  split at h
  · rename_i hc; exact hc.1
  · cases h
structure Turned (xs : List Int) (who n : Int) (x : List Int) : Prop where
  num : -100000 ≤ n ∧ n ≤ 100000
  ok : monOk xs = true
  ok' : monOk x = true
  has : monHas x who = monHas xs who + n
  other : ∀ u, u ≠ who → monHas x u = monHas xs u
  sum : sumW x = sumW xs + n
  sums : 0 ≤ sumW xs ∧ sumW xs ≤ 500000
  back : monTurn x who (-n) = (xs, true)
theorem monTurn_back {xs : List Int} {who n : Int} (h : (monTurn xs who n).2 = true) : Turned xs who n (monTurn xs who n).1 := by
  obtain ⟨a, b, c, d, e, rfl, ha, hb, hc, hd, he⟩ := monOk_list (monTurn_ok h)
  obtain ⟨ho, hn, hw⟩ := monTurn_list h
  have hs := sumW_list ha hb hc hd he
  rcases hw with ⟨rfl, hr, e1⟩ | ⟨rfl, hr, e1⟩ | ⟨rfl, hr, e1⟩ | ⟨rfl, hr, e1⟩ | ⟨rfl, hr, e1⟩
  · rw [e1]
    have ho' := monOk_of hr hb hc hd he
    refine ⟨hn, ho, ho', by rw [(monHas_list ho').1, (monHas_list ho).1], fun u hu => ?_, by rw [hs, sumW_list hr hb hc hd he]; omega, by rw [hs]; omega, ?_⟩
    · by_cases hw : 1 ≤ u ∧ u ≤ 5
      · obtain ⟨p1, p2, p3, p4, p5⟩ := monHas_list ho'; obtain ⟨q1, q2, q3, q4, q5⟩ := monHas_list ho
        rcases user_cases hw with rfl | rfl | rfl | rfl | rfl <;> first | exact absurd rfl hu | omega
      · rw [monHas_out hw, monHas_out hw]
    · rw [monTurn_yes' (y := a + n) ho' (by omega) (by omega) rfl (by omega)]
      simp
      omega
  · rw [e1]
    have ho' := monOk_of ha hr hc hd he
    refine ⟨hn, ho, ho', by rw [(monHas_list ho').2.1, (monHas_list ho).2.1], fun u hu => ?_, by rw [hs, sumW_list ha hr hc hd he]; omega, by rw [hs]; omega, ?_⟩
    · by_cases hw : 1 ≤ u ∧ u ≤ 5
      · obtain ⟨p1, p2, p3, p4, p5⟩ := monHas_list ho'; obtain ⟨q1, q2, q3, q4, q5⟩ := monHas_list ho
        rcases user_cases hw with rfl | rfl | rfl | rfl | rfl <;> first | exact absurd rfl hu | omega
      · rw [monHas_out hw, monHas_out hw]
    · rw [monTurn_yes' (y := b + n) ho' (by omega) (by omega) rfl (by omega)]
      simp
      omega
  · rw [e1]
    have ho' := monOk_of ha hb hr hd he
    refine ⟨hn, ho, ho', by rw [(monHas_list ho').2.2.1, (monHas_list ho).2.2.1], fun u hu => ?_, by rw [hs, sumW_list ha hb hr hd he]; omega, by rw [hs]; omega, ?_⟩
    · by_cases hw : 1 ≤ u ∧ u ≤ 5
      · obtain ⟨p1, p2, p3, p4, p5⟩ := monHas_list ho'; obtain ⟨q1, q2, q3, q4, q5⟩ := monHas_list ho
        rcases user_cases hw with rfl | rfl | rfl | rfl | rfl <;> first | exact absurd rfl hu | omega
      · rw [monHas_out hw, monHas_out hw]
    · rw [monTurn_yes' (y := c + n) ho' (by omega) (by omega) rfl (by omega)]
      simp
      omega
  · rw [e1]
    have ho' := monOk_of ha hb hc hr he
    refine ⟨hn, ho, ho', by rw [(monHas_list ho').2.2.2.1, (monHas_list ho).2.2.2.1], fun u hu => ?_, by rw [hs, sumW_list ha hb hc hr he]; omega, by rw [hs]; omega, ?_⟩
    · by_cases hw : 1 ≤ u ∧ u ≤ 5
      · obtain ⟨p1, p2, p3, p4, p5⟩ := monHas_list ho'; obtain ⟨q1, q2, q3, q4, q5⟩ := monHas_list ho
        rcases user_cases hw with rfl | rfl | rfl | rfl | rfl <;> first | exact absurd rfl hu | omega
      · rw [monHas_out hw, monHas_out hw]
    · rw [monTurn_yes' (y := d + n) ho' (by omega) (by omega) rfl (by omega)]
      simp
      omega
  · rw [e1]
    have ho' := monOk_of ha hb hc hd hr
    refine ⟨hn, ho, ho', by rw [(monHas_list ho').2.2.2.2, (monHas_list ho).2.2.2.2], fun u hu => ?_, by rw [hs, sumW_list ha hb hc hd hr]; omega, by rw [hs]; omega, ?_⟩
    · by_cases hw : 1 ≤ u ∧ u ≤ 5
      · obtain ⟨p1, p2, p3, p4, p5⟩ := monHas_list ho'; obtain ⟨q1, q2, q3, q4, q5⟩ := monHas_list ho
        rcases user_cases hw with rfl | rfl | rfl | rfl | rfl <;> first | exact absurd rfl hu | omega
      · rw [monHas_out hw, monHas_out hw]
    · rw [monTurn_yes' (y := e + n) ho' (by omega) (by omega) rfl (by omega)]
      simp
      omega

structure Moved (xs : List Int) (a b n : Int) (x : List Int) : Prop where
  num : 0 ≤ n ∧ n ≤ 100000
  ne : a ≠ b
  ok : monOk x = true
  has : ∀ u, monHas x u = monHas xs u + (if u = b then n else if u = a then -n else 0)
  sum : sumW x = sumW xs
  back : monMove x b a n = (xs, true)
theorem monMove_back {xs : List Int} {a b n : Int} (h : (monMove xs a b n).2 = true) : Moved xs a b n (monMove xs a b n).1 := by
  unfold monMove at h
  split at h
  · rename_i hc
    obtain ⟨h1, h2, h3, h4⟩ := hc
    rw [monMove_yes h1 h2 h3 h4]
    have t1 := monTurn_back h3
    have t2 := monTurn_back h4
    refine ⟨inB_true.1 h1, h2, t2.ok', fun u => ?_, by show sumW (monTurn (monTurn xs a (-n)).1 b n).1 = _; have := t1.sum; have := t2.sum; omega, ?_⟩
    · by_cases hb : u = b
      · subst hb
        rw [if_pos rfl, t2.has, t1.other _ (fun e => h2 e.symm)]
      · rw [if_neg hb, t2.other u hb]
        by_cases ha : u = a
        · subst ha; rw [if_pos rfl, t1.has]
        · rw [if_neg ha, t1.other u ha]; omega
    · have e1 := t2.back
      have e2 := t1.back
      rw [Int.neg_neg] at e2
      have g1 : (monTurn (monTurn (monTurn xs a (-n)).1 b n).1 b (-n)).2 = true := by rw [e1]
      have g2 : (monTurn (monTurn (monTurn (monTurn xs a (-n)).1 b n).1 b (-n)).1 a n).2 = true := by rw [e1]; show (monTurn (monTurn xs a (-n)).1 a n).2 = true; rw [e2]
      rw [monMove_yes h1 (Ne.symm h2) g1 g2, e1]
      show ((monTurn (monTurn xs a (-n)).1 a n).1, true) = _
      rw [e2]
  · cases h
theorem monMove_no {xs : List Int} {a b n : Int} (h : (monMove xs a b n).2 = false) : (monMove xs a b n).1 = xs := by
  unfold monMove at h ⊢
  split at h
  · cases h
  · rename_i hc; rw [if_neg hc]
end Go.Proofs.Ytblmgpdbncihbaa
