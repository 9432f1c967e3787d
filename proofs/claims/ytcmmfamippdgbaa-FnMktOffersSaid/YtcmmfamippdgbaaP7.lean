/- Markets that requests have led to: what holds of them, and what keeps it. -/
import Derived.Test.YtcmmfamippdgbaaO5
import Derived.Test.YtcmmfamippdgbaaH1
namespace Go.Proofs.Ytcmmfamippdgbaa
open Vc

structure DealOk (rs : List Row) (d : Deal) : Prop where
  t : 0 ≤ d.ticket ∧ d.ticket ≤ 7
  row : ∃ r, rs[d.ticket.toNat]? = some r ∧ r.who = d.seller ∧ r.used = false ∧ (1 ≤ d.price ∧ d.price ≤ entCap r.face)
  seller : 1 ≤ d.seller ∧ d.seller ≤ 5
  buyer : d.buyer = 0 ∨ (1 ≤ d.buyer ∧ d.buyer ≤ 5 ∧ d.buyer ≠ d.seller)
  due : 0 ≤ d.due ∧ d.due ≤ 200000
structure MInv (m : Hou) : Prop where
  fold : (ownFold m.log).2 = true
  deal : ∀ d ∈ m.deals, DealOk (ownFold m.log).1 d
  dist : m.deals.Pairwise (fun a b => a.ticket ≠ b.ticket)
  nl : m.nums.length = 5
  nb : ∀ n ∈ m.nums, 0 ≤ n ∧ n ≤ 99999
  sl : m.said.length = 5
  pl : m.purses.length ≤ 5
  clock : 0 ≤ m.clock ∧ m.clock ≤ 100000
theorem entCap_le (n : Int) : entCap n ≤ 60 := by
  unfold entCap
  split
  · rename_i h; have := inB_true.1 h; omega
  · omega
theorem foldE_snoc : ∀ (xs : List Ent) (rs r : List Row) (e : Ent), foldE rs xs = some r → ownFits r e = true → foldE rs (xs ++ [e]) = some (ownPut r e).1
  | [], rs, r, e, h, hf => by
    simp only [foldE, Option.some.injEq] at h
    subst h
    have : (ownPut rs e).2 = true := by simp [ownPut, hf]
    simp [foldE, this]
  | a :: t, rs, r, e, h, hf => by
    simp only [foldE] at h
    simp only [List.cons_append, foldE]
    split at h
    · rename_i h2; rw [if_pos h2]; exact foldE_snoc t _ r e h hf
    · cases h
theorem ownFold_snoc {xs : List Ent} {e : Ent} (h : (ownFold xs).2 = true) (hl : xs.length < 40) (hf : ownFits (ownFold xs).1 e = true) : ownFold (xs ++ [e]) = ((ownPut (ownFold xs).1 e).1, true) := by
  have h40 : xs.length ≤ 40 := by omega
  cases hx : foldE rows0 xs with
  | none => simp only [ownFold, if_pos h40, hx] at h; cases h
  | some r =>
    have e1 : (ownFold xs).1 = r := by simp only [ownFold, if_pos h40, hx]
    rw [e1] at hf ⊢
    have h2 : (xs ++ [e]).length ≤ 40 := by simp; omega
    simp only [ownFold, if_pos h2, foldE_snoc xs _ _ _ hx hf]
theorem MInv.rows {m : Hou} (h : MInv m) : (ownFold m.log).1.length = 8 := by
  have := ownFold_rows h.fold
  simp only [ownOk, Bool.and_eq_true, decide_eq_true_eq] at this
  exact this.1
/-- a row that an entry does not name stands as it stood -/
theorem put_other {rs : List Row} {e : Ent} {t : Int} (h0 : 0 ≤ t) (he : 0 ≤ e.ticket) (h : t ≠ e.ticket) : (ownPut rs e).1[t.toNat]? = rs[t.toNat]? := by
  unfold ownPut
  split
  · dsimp only
    rw [List.getElem?_set_ne (by omega)]
  · rfl
theorem fits_ticket {rs : List Row} {e : Ent} (h : ownFits rs e = true) : 0 ≤ e.ticket ∧ e.ticket ≤ 7 := by
  simp only [ownFits, entOk, Bool.and_eq_true] at h
  exact inB_true.1 h.1.2.1.1
/-- an entry more, and of the deals those about other tickets -/
theorem MInv.log {m : Hou} {e : Ent} {ds : List Deal} {ps : List Int} (h : MInv m) (hl : m.log.length < 40) (hf : ownFits (ownFold m.log).1 e = true) (hs : ds.Sublist m.deals) (hd : ∀ d ∈ ds, d.ticket ≠ e.ticket) (hp : ps.length ≤ 5) :
    MInv ⟨m.log ++ [e], ps, ds, m.clock, m.nums, m.said⟩ := by
  have ef := ownFold_snoc h.fold hl hf
  have ht := fits_ticket hf
  refine ⟨by rw [ef], fun d hd' => ?_, h.dist.sublist hs, h.nl, h.nb, h.sl, hp, h.clock⟩
  dsimp only at hd'
  rw [ef]
  obtain ⟨d1, ⟨r, hr, r1⟩, d3, d4, d5⟩ := h.deal d (hs.subset hd')
  exact ⟨d1, ⟨r, by rw [put_other d1.1 ht.1 (hd d hd')]; exact hr, r1⟩, d3, d4, d5⟩
theorem MInv.sub {m : Hou} {ds : List Deal} {ps : List Int} (h : MInv m) (hs : ds.Sublist m.deals) (hp : ps.length ≤ 5) : MInv ⟨m.log, ps, ds, m.clock, m.nums, m.said⟩ :=
  ⟨h.fold, fun d hd => h.deal d (hs.subset hd), h.dist.sublist hs, h.nl, h.nb, h.sl, hp, h.clock⟩
/-- one deal turned, its ticket kept -/
theorem MInv.turn {m : Hou} {k : Nat} {d d' : Deal} {ps : List Int} (h : MInv m) (hk : m.deals[k]? = some d) (ht : d'.ticket = d.ticket) (ho : DealOk (ownFold m.log).1 d') (hp : ps.length ≤ 5) : MInv ⟨m.log, ps, m.deals.set k d', m.clock, m.nums, m.said⟩ := by
  refine ⟨h.fold, fun x hx => ?_, ?_, h.nl, h.nb, h.sl, hp, h.clock⟩
  · rcases List.mem_or_eq_of_mem_set hx with hx | rfl
    · exact h.deal x hx
    · exact ho
  · have e : (m.deals.set k d').map (·.ticket) = m.deals.map (·.ticket) := by
      obtain ⟨hlt, e0⟩ := List.getElem?_eq_some_iff.1 hk
      rw [List.map_set, ht]
      have hm : (m.deals.map (·.ticket))[k]? = some d.ticket := by rw [List.getElem?_map, hk]; rfl
      apply List.ext_getElem?
      intro j
      by_cases hj : k = j
      · subst hj; rw [List.getElem?_set_self (by simpa using hlt), hm]
      · rw [List.getElem?_set_ne hj]
    have h1 := h.dist
    rw [← List.pairwise_map (f := fun d : Deal => d.ticket) (R := fun a b => a ≠ b)] at h1 ⊢
    dsimp only at e ⊢
    rw [e]; exact h1
/-- a deal more, about a ticket of which none is -/
theorem MInv.more {m : Hou} {p : Nat} {d : Deal} (h : MInv m) (hn : ∀ x ∈ m.deals, x.ticket ≠ d.ticket) (ho : DealOk (ownFold m.log).1 d) : MInv ⟨m.log, m.purses, m.deals.take p ++ d :: m.deals.drop p, m.clock, m.nums, m.said⟩ := by
  have hd : (m.deals.take p ++ m.deals.drop p).Pairwise (fun a b => a.ticket ≠ b.ticket) := by rw [List.take_append_drop]; exact h.dist
  rw [List.pairwise_append] at hd
  refine ⟨h.fold, fun x hx => ?_, List.pairwise_append.2 ⟨hd.1, List.pairwise_cons.2 ⟨fun x hx e => hn x (List.mem_of_mem_drop hx) e.symm, hd.2.1⟩, fun a ha b hb => ?_⟩, h.nl, h.nb, h.sl, h.pl, h.clock⟩
  · rcases List.mem_append.1 hx with hx | hx
    · exact h.deal x (List.mem_of_mem_take hx)
    · rcases List.mem_cons.1 hx with rfl | hx
      · exact ho
      · exact h.deal x (List.mem_of_mem_drop hx)
  · rcases List.mem_cons.1 hb with rfl | hb
    · exact hn a (List.mem_of_mem_take ha)
    · exact hd.2.2 a ha b hb
theorem out_sub (ds : List Deal) (k : Nat) : (ds.take k ++ ds.drop (k + 1)).Sublist ds := by
  conv => rhs; rw [← List.take_append_drop k ds]
  refine List.Sublist.append (List.Sublist.refl _) ?_
  rw [← List.drop_drop]; exact List.drop_sublist 1 _
/-- without the k-th there is none about its ticket -/
theorem out_none {m : Hou} {k : Nat} {d : Deal} (h : MInv m) (hk : m.deals[k]? = some d) : ∀ x ∈ m.deals.take k ++ m.deals.drop (k + 1), x.ticket ≠ d.ticket := by
  obtain ⟨hlt, e0⟩ := List.getElem?_eq_some_iff.1 hk
  have h1 := h.dist
  rw [← List.take_append_drop k m.deals, List.drop_eq_getElem_cons hlt, List.pairwise_append, List.pairwise_cons, e0] at h1
  intro x hx
  rcases List.mem_append.1 hx with hx | hx
  · exact h1.2.2 x hx d (List.mem_cons_self ..)
  · exact fun e => h1.2.1.1 x hx e.symm
theorem rem1 (a : Int) : ∀ (l : List Int), l.Pairwise (· ≠ ·) → l.length ≤ (l.filter (fun x => !decide (x = a))).length + 1
  | [], _ => by simp
  | b :: t, h => by
    rw [List.pairwise_cons] at h
    by_cases e : b = a
    · subst e
      have : t.filter (fun x => !decide (x = b)) = t := List.filter_eq_self.2 (fun x hx => by have := h.1 x hx; simp; exact fun e => this e.symm)
      rw [List.filter_cons_of_neg (by simp), this]; simp
    · have := rem1 a t h.2
      rw [List.filter_cons_of_pos (by simp [e])]; simp only [List.length_cons]; omega
theorem pig : ∀ (n : Nat) (l : List Int), l.Pairwise (· ≠ ·) → (∀ x ∈ l, 0 ≤ x ∧ x < (n : Int)) → l.length ≤ n
  | 0, l, _, h => by
    cases l with
    | nil => simp
    | cons a t => have := h a (List.mem_cons_self ..); omega
  | n + 1, l, hp, h => by
    have h1 := rem1 (n : Int) l hp
    have h2 := pig n (l.filter (fun x => !decide (x = (n : Int)))) (hp.filter _) (fun x hx => by
      obtain ⟨hx1, hx2⟩ := List.mem_filter.1 hx
      have := h x hx1
      simp only [Bool.not_eq_true', decide_eq_false_iff_not] at hx2
      omega)
    omega
theorem MInv.dl {m : Hou} (h : MInv m) : m.deals.length ≤ 8 := by
  have h1 := h.dist
  rw [← List.pairwise_map (f := fun d : Deal => d.ticket) (R := fun a b => a ≠ b)] at h1
  have := pig 8 (m.deals.map (fun d : Deal => d.ticket)) h1 (fun x hx => by
    obtain ⟨d, hd, rfl⟩ := List.mem_map.1 hx
    have := (h.deal d hd).t; omega)
  simpa using this
theorem MInv.ll {m : Hou} (h : MInv m) : m.log.length ≤ 40 := by
  have := h.fold
  unfold ownFold at this
  split at this
  · assumption
  · cases this
end Go.Proofs.Ytcmmfamippdgbaa
