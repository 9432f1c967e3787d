/- Plain laws: rows stay ok. -/
import Derived.Test.YtcmmfamippdgbaaO2
namespace Go.Proofs.Ytcmmfamippdgbaa
open Vc

theorem rowOk_put {rs : List Row} {e : Ent} {r : Row} (h : ownFits rs e = true) (hF : Fit rs e r) : rowOk (put r e) = true := by
  have h' := h
  simp only [ownFits, Bool.and_eq_true] at h'
  have he := h'.1.2
  have ho := hF.ok
  have hf := hF.fits_
  simp only [entOk, Bool.and_eq_true] at he
  simp only [rowOk, Bool.or_eq_true, Bool.and_eq_true, decide_eq_true_eq] at ho ⊢
  have hw := inB_true.1 he.1.2
  unfold put
  by_cases k1 : e.kind = 1
  · rw [if_pos k1] at he ⊢
    exact .inr ⟨he.1.2, he.2⟩
  rw [if_neg k1] at he ⊢
  by_cases k2 : e.kind = 2
  · rw [if_pos k2]
    simp only [fits, if_neg k1, if_pos k2, Bool.and_eq_true, Bool.not_eq_true', decide_eq_false_iff_not] at hf
    rcases ho with ho | ho
    · exact absurd (by rw [ho]; rfl) hf.1.1.1
    · exact .inr ⟨he.1.2, ho.2⟩
  · rw [if_neg k2]
    simp only [fits, if_neg k1, if_neg k2, Bool.and_eq_true, decide_eq_true_eq] at hf
    rcases ho with ho | ho
    · have : r.who = 0 := by rw [ho]; rfl
      omega
    · exact .inr ho
theorem ownOk_put {rs : List Row} {e : Ent} (h : (ownPut rs e).2 = true) : ownOk (ownPut rs e).1 = true := by
  have hf : ownFits rs e = true := by
    cases hf : ownFits rs e
    · rw [ownPut_no hf] at h; cases h
    · rfl
  obtain ⟨r, hF⟩ := fit_of hf
  have hr := rowOk_put hf hF
  have h1 : ownOk rs = true := by simp only [ownFits, Bool.and_eq_true] at hf; exact hf.1.1
  rw [hF.put_]
  have hl := ownOk_len h1
  simp only [ownOk, Bool.and_eq_true, decide_eq_true_eq, List.all_eq_true] at h1 ⊢
  refine ⟨by rw [List.length_set]; exact h1.1, fun y hy => ?_⟩
  rcases List.mem_or_eq_of_mem_set hy with hy | rfl
  · exact h1.2 y hy
  · exact hr
theorem rows0_ok : ownOk rows0 = true := by decide
theorem foldE_ok : ∀ (xs : List Ent) (rs r : List Row), ownOk rs = true → foldE rs xs = some r → ownOk r = true
  | [], rs, r, h0, h => by simp only [foldE, Option.some.injEq] at h; rw [← h]; exact h0
  | e :: es, rs, r, h0, h => by
    simp only [foldE] at h
    split at h
    · rename_i h2; exact foldE_ok es _ _ (ownOk_put h2) h
    · cases h
theorem ownFold_rows {xs : List Ent} (h : (ownFold xs).2 = true) : ownOk (ownFold xs).1 = true := by
  unfold ownFold at h ⊢
  split
  · split
    · rename_i h2; exact foldE_ok _ _ _ rows0_ok h2
    · rename_i h1 _ h2; rw [if_pos h1, h2] at h; cases h
  · rename_i h1; rw [if_neg h1] at h; cases h
end Go.Proofs.Ytcmmfamippdgbaa
