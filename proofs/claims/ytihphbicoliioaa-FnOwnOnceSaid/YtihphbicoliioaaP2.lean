/- Plain laws: what entries that follow one another are about a ticket. -/
import Derived.Test.YtihphbicoliioaaO5
namespace Go.Proofs.Ytihphbicoliioaa
open Vc

def about (xs : List Ent) (t : Int) : List Ent := xs.filter (fun e => decide (e.ticket = t))
theorem about_snoc_in {xs : List Ent} {t : Int} {e : Ent} (h : e.ticket = t) : about (xs ++ [e]) t = about xs t ++ [e] := by
  simp [about, List.filter_append, h]
theorem about_snoc_out {xs : List Ent} {t : Int} {e : Ent} (h : ¬ e.ticket = t) : about (xs ++ [e]) t = about xs t := by
  simp [about, List.filter_append, h]
structure Life (es : List Ent) (r : Row) : Prop where
  none_ : es = [] → r = row0
  who : ∀ e, es.getLast? = some e → r.who = e.who ∧ ¬ e.who = 0 ∧ r.used = decide (e.kind = 3)
  face : ∀ e, es[0]? = some e → r.face = e.price
  first : ∀ (i : Nat) (e : Ent), es[i]? = some e → (i = 0 ↔ e.kind = 1)
  enter : ∀ (i : Nat) (e : Ent), es[i]? = some e → e.kind = 3 → i + 1 = es.length ∧ ∃ p, es[i - 1]? = some p ∧ e.who = p.who
  pass : ∀ (i : Nat) (e : Ent), es[i]? = some e → e.kind = 2 → ∃ p, es[i - 1]? = some p ∧ ¬ e.who = p.who ∧ e.price ≤ entCap r.face
theorem life_nil : Life [] row0 := ⟨fun _ => rfl, by simp, by simp, by simp, by simp, by simp⟩
theorem last_at {es : List Ent} {e : Ent} (h : es.getLast? = some e) : es ≠ [] ∧ es[es.length - 1]? = some e := by
  rw [List.getLast?_eq_getElem?] at h
  exact ⟨fun h0 => by subst h0; simp at h, h⟩
theorem snoc_at {es : List Ent} {e x : Ent} {i : Nat} (h : (es ++ [e])[i]? = some x) : es[i]? = some x ∨ (i = es.length ∧ x = e) := by
  rcases Nat.lt_or_ge i es.length with h1 | h1
  · rw [List.getElem?_append_left h1] at h; exact .inl h
  · rw [List.getElem?_append_right h1] at h
    rcases Nat.lt_or_ge (i - es.length) 1 with h2 | h2
    · have : i = es.length := by omega
      subst this
      simp at h
      exact .inr ⟨rfl, h.symm⟩
    · rw [List.getElem?_eq_none (by simp; omega)] at h; cases h
theorem at_snoc {es : List Ent} {e x : Ent} {i : Nat} (h : es[i]? = some x) : (es ++ [e])[i]? = some x := by
  rw [List.getElem?_append_left (List.getElem?_eq_some_iff.1 h).1]; exact h
/-- one entry more about a ticket that stands as r -/
theorem life_put {es : List Ent} {r : Row} {rs : List Row} {e : Ent} (hL : Life es r) (hF : Fit rs e r) (hk : e.kind = 1 ∨ e.kind = 2 ∨ e.kind = 3) (hw : ¬ e.who = 0) : Life (es ++ [e]) (put r e) := by
  have hf := hF.fits_
  rcases hk with k | k | k
  · have hr := hF.free k
    have h0 : es = [] := by
      rcases hes : es.getLast? with _ | l
      · simpa using hes
      · have := hL.who l hes
        rw [hr] at this
        exact absurd this.1.symm this.2.1
    subst h0
    have hp : put r e = ⟨e.who, e.price, false⟩ := by rw [put, if_pos k]
    rw [hp]
    refine ⟨by simp, fun x hx => ?_, fun x hx => ?_, fun i x hx => ?_, fun i x hx hx3 => ?_, fun i x hx hx2 => ?_⟩
    · simp at hx; subst hx; exact ⟨rfl, hw, by simp [k]⟩
    · simp at hx; subst hx; rfl
    · rcases snoc_at hx with h | ⟨rfl, rfl⟩
      · simp at h
      · simp [k]
    · rcases snoc_at hx with h | ⟨rfl, rfl⟩
      · simp at h
      · omega
    · rcases snoc_at hx with h | ⟨rfl, rfl⟩
      · simp at h
      · omega
  all_goals
    have hn1 : ¬ e.kind = 1 := by omega
    have hne : es ≠ [] := by
      intro h0
      have hr := hL.none_ h0
      have hrw : r.who = 0 := by rw [hr]; rfl
      first
        | (simp only [fits, if_neg hn1, if_pos k, Bool.and_eq_true, Bool.not_eq_true', decide_eq_false_iff_not] at hf; exact hf.1.1.1 hrw)
        | (have hn2 : ¬ e.kind = 2 := by omega
           simp only [fits, if_neg hn1, if_neg hn2, Bool.and_eq_true, decide_eq_true_eq] at hf
           omega)
    obtain ⟨l, hl⟩ : ∃ l, es.getLast? = some l := ⟨es.getLast hne, List.getLast?_eq_some_getLast hne⟩
    obtain ⟨l1, l2, l3⟩ := hL.who l hl
    have hla := (last_at hl).2
    have hpos : 0 < es.length := List.length_pos_iff.2 hne
    have hu : r.used = false := by
      first
        | (simp only [fits, if_neg hn1, if_pos k, Bool.and_eq_true, Bool.not_eq_true', decide_eq_false_iff_not] at hf; exact hf.1.2)
        | (have hn2 : ¬ e.kind = 2 := by omega
           simp only [fits, if_neg hn1, if_neg hn2, Bool.and_eq_true, Bool.not_eq_true'] at hf
           exact hf.2)
    have hno3 : ∀ (i : Nat) (x : Ent), es[i]? = some x → ¬ x.kind = 3 := by
      intro i x hx hx3
      have h1 := (hL.enter i x hx hx3).1
      have : i = es.length - 1 := by omega
      rw [this, hla] at hx
      have : l = x := Option.some.inj hx
      rw [hu, this, hx3] at l3
      simp at l3
    obtain ⟨f, hfst⟩ : ∃ f, es[0]? = some f := ⟨es[0], List.getElem?_eq_getElem hpos⟩
  · have hp : put r e = ⟨e.who, r.face, r.used⟩ := by rw [put, if_neg hn1, if_pos k]
    simp only [fits, if_neg hn1, if_pos k, Bool.and_eq_true, Bool.not_eq_true', decide_eq_false_iff_not, decide_eq_true_eq] at hf
    rw [hp]
    refine ⟨by simp, fun x hx => ?_, fun x hx => ?_, fun i x hx => ?_, fun i x hx hx3 => ?_, fun i x hx hx2 => ?_⟩
    · simp at hx; subst hx; exact ⟨rfl, hw, by simp [k, hu]⟩
    · rw [at_snoc hfst] at hx
      have : f = x := Option.some.inj hx
      subst this
      exact hL.face f hfst
    · rcases snoc_at hx with h | ⟨rfl, rfl⟩
      · exact hL.first i x h
      · omega
    · rcases snoc_at hx with h | ⟨rfl, rfl⟩
      · exact absurd hx3 (hno3 i x h)
      · omega
    · rcases snoc_at hx with h | ⟨rfl, rfl⟩
      · obtain ⟨p, p1, p2, p3⟩ := hL.pass i x h hx2
        exact ⟨p, at_snoc p1, p2, p3⟩
      · exact ⟨l, at_snoc hla, fun h => hf.1.1.2 (by rw [l1, h]), hf.2⟩
  · have hn2 : ¬ e.kind = 2 := by omega
    have hp : put r e = ⟨r.who, r.face, true⟩ := by rw [put, if_neg hn1, if_neg hn2]
    simp only [fits, if_neg hn1, if_neg hn2, Bool.and_eq_true, Bool.not_eq_true', decide_eq_true_eq] at hf
    rw [hp]
    refine ⟨by simp, fun x hx => ?_, fun x hx => ?_, fun i x hx => ?_, fun i x hx hx3 => ?_, fun i x hx hx2 => ?_⟩
    · simp at hx; subst hx; exact ⟨hf.1, hw, by simp [k]⟩
    · rw [at_snoc hfst] at hx
      have : f = x := Option.some.inj hx
      subst this
      exact hL.face f hfst
    · rcases snoc_at hx with h | ⟨rfl, rfl⟩
      · exact hL.first i x h
      · omega
    · rcases snoc_at hx with h | ⟨rfl, rfl⟩
      · exact absurd hx3 (hno3 i x h)
      · exact ⟨by simp, l, at_snoc hla, by rw [← hf.1, l1]⟩
    · rcases snoc_at hx with h | ⟨rfl, rfl⟩
      · obtain ⟨p, p1, p2, p3⟩ := hL.pass i x h hx2
        exact ⟨p, at_snoc p1, p2, p3⟩
      · omega
theorem kind_of {rs : List Row} {e : Ent} (h : ownFits rs e = true) : (e.kind = 1 ∨ e.kind = 2 ∨ e.kind = 3) ∧ ¬ e.who = 0 ∧ 0 ≤ e.ticket ∧ e.ticket ≤ 7 := by
  simp only [ownFits, Bool.and_eq_true] at h
  have he := h.1.2
  simp only [entOk, Bool.and_eq_true] at he
  have hw := inB_true.1 he.1.2
  have ht := inB_true.1 he.1.1
  refine ⟨?_, by omega, ht.1, ht.2⟩
  by_cases k1 : e.kind = 1
  · exact .inl k1
  by_cases k2 : e.kind = 2
  · exact .inr (.inl k2)
  rw [if_neg k1, if_neg k2] at he
  simp only [Bool.and_eq_true, decide_eq_true_eq] at he
  exact .inr (.inr he.2.1)
def Lives (pre : List Ent) (rs : List Row) : Prop := ∀ (t : Nat) (r : Row), rs[t]? = some r → Life (about pre t) r
theorem lives_put {pre : List Ent} {rs : List Row} {e : Ent} (h : Lives pre rs) (hp : (ownPut rs e).2 = true) : Lives (pre ++ [e]) (ownPut rs e).1 := by
  have hf : ownFits rs e = true := by
    cases hf : ownFits rs e
    · rw [ownPut_no hf] at hp; cases hp
    · rfl
  obtain ⟨r, hF⟩ := fit_of hf
  obtain ⟨hk, hw, ht0, ht7⟩ := kind_of hf
  rw [hF.put_]
  intro t x hx
  dsimp only at hx
  by_cases he : e.ticket.toNat = t
  · subst he
    rw [List.getElem?_set_self (List.getElem?_eq_some_iff.1 hF.at_).1] at hx
    have : put r e = x := Option.some.inj hx
    subst this
    have e1 : e.ticket = ((e.ticket.toNat : Nat) : Int) := by omega
    rw [about_snoc_in e1]
    exact life_put (h _ r hF.at_) hF hk hw
  · rw [List.getElem?_set_ne he] at hx
    rw [about_snoc_out (by omega)]
    exact h t x hx
theorem lives_fold : ∀ (xs pre : List Ent) (rs r : List Row), Lives pre rs → foldE rs xs = some r → Lives (pre ++ xs) r
  | [], pre, rs, r, h, hf => by
    simp only [foldE, Option.some.injEq] at hf
    rw [← hf, List.append_nil]; exact h
  | e :: es, pre, rs, r, h, hf => by
    simp only [foldE] at hf
    split at hf
    · rename_i h2
      have := lives_fold es (pre ++ [e]) _ r (lives_put h h2) hf
      rwa [List.append_assoc] at this
    · cases hf
theorem lives_of {xs : List Ent} (h : (ownFold xs).2 = true) : Lives xs (ownFold xs).1 := by
  have h0 : Lives [] rows0 := by
    intro t r hr
    have : r = row0 := by
      have hm := List.mem_of_getElem? hr
      simp [rows0] at hm; exact hm
    subst this
    exact life_nil
  unfold ownFold at h ⊢
  split
  · split
    · rename_i r hr
      have := lives_fold xs [] rows0 r h0 hr
      simpa using this
    · rename_i h1 _ h2; rw [if_pos h1, h2] at h; cases h
  · rename_i h1; rw [if_neg h1] at h; cases h
end Go.Proofs.Ytihphbicoliioaa
