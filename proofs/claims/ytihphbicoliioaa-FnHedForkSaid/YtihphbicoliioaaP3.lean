/- Plain laws: proofs of leaves lead to the root; proofs that the first leaves are the beginning lead to both roots; who shows another leaf has found a clash. -/
import Derived.Test.YtihphbicoliioaaT6
import Derived.Test.YtihphbicoliioaaT3
import Derived.Test.YtihphbicoliioaaO4
namespace Go.Proofs.Ytihphbicoliioaa
open Vc

theorem rootL_split {xs : List Int} (h : 2 ≤ xs.length) (hl : xs.length ≤ 40) : rootL xs = mixP (rootL (xs.take (spl xs.length).toNat)) (rootL (xs.drop (spl xs.length).toNat)) := by
  obtain ⟨p1, p2, p3, p4⟩ := parts_len (xs := xs) h
  have e : rootL xs = mixP (rootF 40 (xs.take (spl xs.length).toNat)) (rootF 40 (xs.drop (spl xs.length).toNat)) := by
    show rootF 41 xs = _
    rw [show (41 : Nat) = 40 + 1 from rfl, rootF, if_neg (by omega), if_neg (by omega)]
  rw [e, rootL, rootL, rootF_fuel 41 40 _ (by omega) (by omega), rootF_fuel 41 40 _ (by omega) (by omega)]
/-! ## another leaf shown -/
/-! ## the beginning shown -/
theorem spl_mid {n m : Int} (h : 2 ≤ n ∧ n ≤ 40) (h1 : spl n < m) (h2 : m ≤ n) : spl m = spl n := by
  unfold spl at h1 ⊢; (repeat' split at h1) <;> (repeat' split) <;> omega
theorem growthF_mx : ∀ (f : Nat) (xs : List Int) (m : Int) (known : Bool), (∀ y ∈ xs, Mx y) → ∀ y ∈ growthF f xs m known, Mx y
  | 0, _, _, _, _ => by simp [growthF]
  | f + 1, xs, m, known, h => by
    obtain ⟨q1, q2⟩ := mem_part (k := (spl xs.length).toNat) h
    simp only [growthF]
    split
    · split
      · simp
      · intro y hy; rw [List.mem_singleton.1 hy]; exact rootL_mx h
    · split
      · intro y hy
        rcases List.mem_append.1 hy with hy | hy
        · exact growthF_mx f _ _ _ q1 y hy
        · rw [List.mem_singleton.1 hy]; exact rootL_mx q2
      · intro y hy
        rcases List.mem_append.1 hy with hy | hy
        · exact growthF_mx f _ _ _ q2 y hy
        · rw [List.mem_singleton.1 hy]; exact rootL_mx q1
theorem headZ_snoc {xs : List Int} {y z : Int} (h : xs ++ [y] ≠ [] → z = headZ (xs ++ [y])) : xs ≠ [] → z = headZ xs := by
  intro hx
  have := h (by simp)
  cases xs with
  | nil => exact absurd rfl hx
  | cons a t => simpa [headZ] using this
theorem grown_growth (z old : Int) : ∀ (f : Nat) (xs : List Int) (m : Int) (known : Bool), xs.length ≤ f → xs.length ≤ 40 → (1 ≤ m ∧ m ≤ xs.length) → (known = true → old = rootL (xs.take m.toNat)) → (growthF f xs m known ≠ [] → z = headZ (growthF f xs m known)) →
    grownR z old (growthF f xs m known).reverse m xs.length known = (rootL (xs.take m.toNat), rootL xs, true)
  | 0, xs, m, known, hf, hl, hm, ho, hz => by omega
  | f + 1, xs, m, known, hf, hl, hm, ho, hz => by
    simp only [growthF] at hz ⊢
    by_cases h0 : m = xs.length
    · have e : xs.take m.toNat = xs := List.take_of_length_le (by omega)
      rw [e] at ho ⊢
      rw [if_pos h0] at hz ⊢
      cases known
      · rw [if_neg (by simp)] at hz ⊢
        have hz' : z = rootL xs := hz (by simp)
        rw [List.reverse_singleton, grownR, if_pos h0, if_neg (by simp), hz']; rfl
      · rw [if_pos rfl, List.reverse_nil, grownR, if_pos ⟨h0, rfl⟩, ho rfl]
    rw [if_neg h0] at hz ⊢
    obtain ⟨p1, p2, p3, p4⟩ := parts_len (xs := xs) (by omega)
    have hsp := spl_lt (n := (xs.length : Int)) (by omega)
    have hrt := rootL_split (xs := xs) (by omega) hl
    by_cases h1 : m ≤ spl xs.length
    · rw [if_pos h1] at hz ⊢
      have et : (xs.take (spl xs.length).toNat).take m.toNat = xs.take m.toNat := by rw [List.take_take, Nat.min_eq_left (by omega)]
      have ih := grown_growth z old f (xs.take (spl xs.length).toNat) m known (by omega) (by omega) (by omega) (by rw [et]; exact ho) (headZ_snoc hz)
      have e : ((xs.take (spl xs.length).toNat).length : Int) = spl xs.length := by rw [p1]; omega
      rw [e, et] at ih
      rw [List.reverse_append, List.reverse_singleton, List.singleton_append, grownR, if_neg h0, if_pos h1, ih, hrt]
    · rw [if_neg h1] at hz ⊢
      have ih := grown_growth z old f (xs.drop (spl xs.length).toNat) (m - spl xs.length) false (by omega) (by omega) (by omega) (fun h => by cases h) (headZ_snoc hz)
      have e : ((xs.drop (spl xs.length).toNat).length : Int) = xs.length - spl xs.length := by rw [p2]; omega
      rw [e] at ih
      have hlm : (xs.take m.toNat).length = m.toNat := by rw [List.length_take]; omega
      have hsm : spl ((xs.take m.toNat).length : Int) = spl xs.length := by
        rw [hlm]; exact spl_mid (by omega) (by omega) (by omega)
      have hr2 := rootL_split (xs := xs.take m.toNat) (by omega) (by omega)
      have e1 : (xs.take m.toNat).take (spl xs.length).toNat = xs.take (spl xs.length).toNat := by rw [List.take_take, Nat.min_eq_left (by omega)]
      have e2 : (xs.take m.toNat).drop (spl xs.length).toNat = (xs.drop (spl xs.length).toNat).take (m - spl xs.length).toNat := by
        rw [List.drop_take]; congr 1; omega
      rw [hsm, e1, e2] at hr2
      rw [List.reverse_append, List.reverse_singleton, List.singleton_append, grownR, if_neg h0, if_neg h1, ih, hr2, hrt]
end Go.Proofs.Ytihphbicoliioaa
