/- Tickets that have gone through gates: how often, all together. -/
import Derived.Test.YtcmmfamippdgbaaG2
namespace Go.Proofs.Ytcmmfamippdgbaa
open Vc

theorem gatOk_spec {h : Hed} {xs : List Int} (e : gatOk h xs = true) : xs.Pairwise (· < ·) ∧ ∀ x ∈ xs, 0 ≤ x ∧ x ≤ 7 := by
  simp only [gatOk, Bool.and_eq_true, gatTo, List.all_eq_true, List.mem_range] at e
  have hin : ∀ (k : Nat) (y : Int), xs[k]? = some y → inB y 0 7 = true := fun k y hy => by
    have hb := e.2 k (List.getElem?_eq_some_iff.1 hy).1
    cases hi : inB y 0 7
    · rw [gatBad_1 hy hi] at hb; cases hb
    · rfl
  have hlt : ∀ (k : Nat) (y z : Int), xs[k]? = some y → xs[k + 1]? = some z → y < z := fun k y z hy hz => by
    have hb := e.2 (k + 1) (List.getElem?_eq_some_iff.1 hz).1
    rw [gatBad_3 hz (hin _ _ hz) (by omega) (z := y) (by rw [show (((k + 1 : Nat) : Int) - 1).toNat = k by omega]; exact hy)] at hb
    by_cases hle : z ≤ y
    · simp [hle] at hb
    · omega
  refine ⟨?_, fun x hx => ?_⟩
  · have hch : ∀ (d i : Nat) (y z : Int), xs[i]? = some y → xs[i + d + 1]? = some z → y < z := by
      intro d
      induction d with
      | zero => exact fun i y z hy hz => hlt i y z hy hz
      | succ d ih =>
        intro i y z hy hz
        have hl := (List.getElem?_eq_some_iff.1 hz).1
        obtain ⟨m, hm⟩ := getElem_ex (xs := xs) (k := i + d + 1) (by omega)
        have a := ih i y m hy hm
        have b := hlt _ _ _ hm hz
        omega
    refine List.pairwise_iff_getElem.2 (fun i j hi hj hij => hch (j - i - 1) i _ _ (List.getElem?_eq_getElem hi) ?_)
    rw [show i + (j - i - 1) + 1 = j by omega]; exact List.getElem?_eq_getElem hj
  · obtain ⟨i, hi, rfl⟩ := List.mem_iff_getElem.1 hx
    exact inB_true.1 (hin i _ (List.getElem?_eq_getElem hi))
theorem mem_thr (ds : List (List Int)) (z : Int) : hasT z (thr ds) = true ↔ ∃ d ∈ ds, hasT z d = true := by
  rw [hasT_mem, thr, (foldI_spec ds.flatten [] List.Pairwise.nil).2]
  simp only [List.not_mem_nil, false_or, List.mem_flatten, hasT_mem]
theorem times_pos (ds : List (List Int)) (z : Int) : decide (0 < (times ds z : Int)) = hasT z (thr ds) := by
  rw [Bool.eq_iff_iff, mem_thr, decide_eq_true_eq]
  unfold times
  constructor
  · intro h
    cases hf : ds.filter (hasT z) with
    | nil => rw [hf] at h; simp at h
    | cons d t =>
      have : d ∈ ds.filter (hasT z) := by rw [hf]; exact List.mem_cons_self ..
      exact ⟨d, (List.mem_filter.1 this).1, (List.mem_filter.1 this).2⟩
  · rintro ⟨d, hd, hz⟩
    have := List.length_pos_of_mem (List.mem_filter.2 ⟨hd, hz⟩)
    omega
def sumT (ds : List (List Int)) : Nat → Nat
  | 0 => 0
  | k + 1 => sumT ds k + times ds (k : Int)
theorem times_le (ds : List (List Int)) (z : Int) : times ds z ≤ ds.length := List.length_filter_le ..
theorem sumT_le (ds : List (List Int)) : ∀ k, sumT ds k ≤ k * ds.length
  | 0 => by simp [sumT]
  | k + 1 => by
    have h1 := sumT_le ds k
    have h2 := times_le ds (k : Int)
    rw [sumT, Nat.succ_mul]; omega
def lowT (k : Int) (d : List Int) : Nat := (d.filter (fun x => decide (x < k))).length
theorem low_one {k : Int} : ∀ {d : List Int}, d.Pairwise (· < ·) → lowT (k + 1) d = lowT k d + (if hasT k d = true then 1 else 0)
  | [], _ => by simp [lowT, hasT]
  | a :: t, h => by
    rw [List.pairwise_cons] at h
    have ih := low_one (k := k) h.2
    unfold lowT at ih ⊢
    by_cases e : a = k
    · subst e
      have hno : hasT a t = false := by
        cases hh : hasT a t
        · rfl
        · have := h.1 a (hasT_mem.1 hh); omega
      have h2 : hasT a (a :: t) = true := by rw [hasT_mem]; exact List.mem_cons_self ..
      rw [hno, if_neg (by simp)] at ih
      rw [h2, if_pos rfl, List.filter_cons_of_pos (by simp; omega), List.filter_cons_of_neg (by simp), List.length_cons, ih]
    · have h2 : hasT k (a :: t) = hasT k t := by simp [hasT, e]
      rw [h2]
      by_cases hl : a < k
      · rw [List.filter_cons_of_pos (by simp; omega), List.filter_cons_of_pos (by simpa using hl), List.length_cons, List.length_cons, ih]; omega
      · rw [List.filter_cons_of_neg (by simp; omega), List.filter_cons_of_neg (by simpa using hl), ih]
theorem times_cons (d : List Int) (ds : List (List Int)) (z : Int) : times (d :: ds) z = (if hasT z d = true then 1 else 0) + times ds z := by
  unfold times
  cases h : hasT z d
  · rw [List.filter_cons_of_neg (by simp [h])]; simp
  · rw [List.filter_cons_of_pos h, List.length_cons]; simp; omega
theorem sumT_cons {d : List Int} (ds : List (List Int)) (hd : d.Pairwise (· < ·)) (h0 : ∀ x ∈ d, 0 ≤ x) : ∀ k : Nat, sumT (d :: ds) k = lowT (k : Int) d + sumT ds k
  | 0 => by
    have : lowT 0 d = 0 := by
      unfold lowT
      rw [List.length_eq_zero_iff, List.filter_eq_nil_iff]
      intro x hx
      have := h0 x hx
      simp; omega
    simp only [sumT]
    rw [show ((0 : Nat) : Int) = 0 from rfl, this]
  | k + 1 => by
    rw [sumT, sumT, sumT_cons ds hd h0 k, times_cons, show ((k + 1 : Nat) : Int) = (k : Int) + 1 by omega, low_one hd]; omega
theorem sumT_all : ∀ (ds : List (List Int)), (∀ d ∈ ds, d.Pairwise (· < ·) ∧ ∀ x ∈ d, 0 ≤ x ∧ x ≤ 7) → sumT ds 8 = ds.flatten.length
  | [], _ => by decide
  | d :: ds, h => by
    obtain ⟨h1, h2⟩ := h d (List.mem_cons_self ..)
    rw [sumT_cons ds h1 (fun x hx => (h2 x hx).1) 8, sumT_all ds (fun e he => h e (List.mem_cons_of_mem _ he)), List.flatten_cons, List.length_append]
    have : lowT ((8 : Nat) : Int) d = d.length := by
      unfold lowT
      rw [List.filter_eq_self.2]
      intro x hx
      have := (h2 x hx).2
      simp; omega
    rw [this]
end Go.Proofs.Ytcmmfamippdgbaa
