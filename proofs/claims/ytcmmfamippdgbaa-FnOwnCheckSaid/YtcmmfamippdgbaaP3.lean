/- Plain laws: proofs of leaves lead to the root; proofs that the first leaves are the beginning lead to both roots; who shows another leaf has found a clash. -/
import Derived.Test.YtcmmfamippdgbaaT6
import Derived.Test.YtcmmfamippdgbaaT1
import Derived.Test.YtcmmfamippdgbaaA5
import Derived.Test.YtcmmfamippdgbaaO4
namespace Go.Proofs.Ytcmmfamippdgbaa
open Vc

theorem rootL_one {xs : List Int} {y : Int} (h : xs.length = 1) (hy : xs[0]? = some y) : rootL xs = y := by
  match xs, h with
  | [a], _ => simp at hy; subst hy; rfl
theorem rootL_split {xs : List Int} (h : 2 ≤ xs.length) (hl : xs.length ≤ 40) : rootL xs = mixP (rootL (xs.take (spl xs.length).toNat)) (rootL (xs.drop (spl xs.length).toNat)) := by
  obtain ⟨p1, p2, p3, p4⟩ := parts_len (xs := xs) h
  have e : rootL xs = mixP (rootF 40 (xs.take (spl xs.length).toNat)) (rootF 40 (xs.drop (spl xs.length).toNat)) := by
    show rootF 41 xs = _
    rw [show (41 : Nat) = 40 + 1 from rfl, rootF, if_neg (by omega), if_neg (by omega)]
  rw [e, rootL, rootL, rootF_fuel 41 40 _ (by omega) (by omega), rootF_fuel 41 40 _ (by omega) (by omega)]
def upR : List Int → Int → Int → Int → Int × Bool
  | [], n, _, leaf => if n = 1 then (leaf, true) else (0, false)
  | y :: r, n, i, leaf =>
    if n = 1 then (leaf, false)
    else if i < spl n then (mixP (upR r (spl n) i leaf).1 y, (upR r (spl n) i leaf).2)
    else (mixP y (upR r (n - spl n) (i - spl n) leaf).1, (upR r (n - spl n) (i - spl n) leaf).2)
theorem upR_mx : ∀ (r : List Int) (n i leaf : Int), Mx leaf → Mx (upR r n i leaf).1
  | [], n, i, leaf, h => by
    simp only [upR]; split
    · exact h
    · simp [Mx]
  | y :: r, n, i, leaf, h => by
    simp only [upR]; split
    · exact h
    · split <;> exact mixP_mx _ _
/-! ## another leaf shown -/
def clashF : Nat → List Int → Int → Int → List Int → List Int
  | 0, _, _, _, _ => []
  | f + 1, xs, i, leaf, pr =>
    if xs.length ≤ 1 then [] else
    match pr with
    | [] => []
    | y :: r =>
      if i < spl xs.length then
        (if (upR r (spl xs.length) i leaf).1 = rootL (xs.take (spl xs.length).toNat) ∧ y = rootL (xs.drop (spl xs.length).toNat) then clashF f (xs.take (spl xs.length).toNat) i leaf r
         else [(upR r (spl xs.length) i leaf).1, y, rootL (xs.take (spl xs.length).toNat), rootL (xs.drop (spl xs.length).toNat)])
      else
        (if y = rootL (xs.take (spl xs.length).toNat) ∧ (upR r (xs.length - spl xs.length) (i - spl xs.length) leaf).1 = rootL (xs.drop (spl xs.length).toNat) then clashF f (xs.drop (spl xs.length).toNat) (i - spl xs.length) leaf r
         else [y, (upR r (xs.length - spl xs.length) (i - spl xs.length) leaf).1, rootL (xs.take (spl xs.length).toNat), rootL (xs.drop (spl xs.length).toNat)])
def Clash (xs : List Int) : Prop := ∃ a b c d, xs = [a, b, c, d] ∧ mixP a b = mixP c d ∧ ¬ (a = c ∧ b = d)
theorem clashF_found : ∀ (f : Nat) (xs : List Int) (i leaf : Int) (pr : List Int) (y : Int), xs.length ≤ f → xs.length ≤ 40 → 0 ≤ i → xs[i.toNat]? = some y → ¬ leaf = y → upR pr xs.length i leaf = (rootL xs, true) → Clash (clashF f xs i leaf pr)
  | 0, xs, i, leaf, pr, y, hf, hl, hi, hy, hne, hu => by have := (List.getElem?_eq_some_iff.1 hy).1; omega
  | f + 1, xs, i, leaf, pr, y, hf, hl, hi, hy, hne, hu => by
    have hlt := (List.getElem?_eq_some_iff.1 hy).1
    by_cases h1 : xs.length ≤ 1
    · have e1 : xs.length = 1 := by omega
      have e0 : i.toNat = 0 := by omega
      rw [e0] at hy
      have hr := rootL_one e1 hy
      rw [e1] at hu
      exfalso
      cases pr with
      | nil => rw [upR, if_pos (by rfl)] at hu; rw [hr] at hu; exact hne (congrArg Prod.fst hu)
      | cons z r => rw [upR, if_pos (by rfl)] at hu; have := congrArg Prod.snd hu; cases this
    obtain ⟨p1, p2, p3, p4⟩ := parts_len (xs := xs) (by omega)
    have hsp := spl_lt (n := (xs.length : Int)) (by omega)
    have hrt := rootL_split (xs := xs) (by omega) hl
    cases pr with
    | nil => rw [upR, if_neg (by omega)] at hu; have := congrArg Prod.snd hu; cases this
    | cons z r =>
      rw [upR, if_neg (by omega)] at hu
      rw [clashF, if_neg h1]
      by_cases h2 : i < spl xs.length
      · rw [if_pos h2] at hu ⊢
        have hu1 : mixP (upR r (spl xs.length) i leaf).1 z = rootL xs := congrArg Prod.fst hu
        have hu2 : (upR r (spl xs.length) i leaf).2 = true := congrArg Prod.snd hu
        by_cases h3 : (upR r (spl xs.length) i leaf).1 = rootL (xs.take (spl xs.length).toNat) ∧ z = rootL (xs.drop (spl xs.length).toNat)
        · rw [if_pos h3]
          have e : ((xs.take (spl xs.length).toNat).length : Int) = spl xs.length := by rw [p1]; omega
          refine clashF_found f _ i leaf r y (by omega) (by omega) hi (by rw [List.getElem?_take_of_lt (by omega)]; exact hy) hne ?_
          rw [e]
          exact Prod.ext h3.1 hu2
        · rw [if_neg h3]
          exact ⟨_, _, _, _, rfl, by rw [hu1, hrt], h3⟩
      · rw [if_neg h2] at hu ⊢
        have hu1 : mixP z (upR r (xs.length - spl xs.length) (i - spl xs.length) leaf).1 = rootL xs := congrArg Prod.fst hu
        have hu2 : (upR r (xs.length - spl xs.length) (i - spl xs.length) leaf).2 = true := congrArg Prod.snd hu
        by_cases h3 : z = rootL (xs.take (spl xs.length).toNat) ∧ (upR r (xs.length - spl xs.length) (i - spl xs.length) leaf).1 = rootL (xs.drop (spl xs.length).toNat)
        · rw [if_pos h3]
          have e : ((xs.drop (spl xs.length).toNat).length : Int) = xs.length - spl xs.length := by rw [p2]; omega
          refine clashF_found f _ (i - spl xs.length) leaf r y (by omega) (by omega) (by omega) ?_ hne ?_
          · rw [List.getElem?_drop]
            have : (spl xs.length).toNat + (i - spl xs.length).toNat = i.toNat := by omega
            rw [this]; exact hy
          · rw [e]
            exact Prod.ext h3.2 hu2
        · rw [if_neg h3]
          exact ⟨_, _, _, _, rfl, by rw [hu1, hrt], h3⟩

/-! ## the beginning shown -/
end Go.Proofs.Ytcmmfamippdgbaa
