/- Tickets that have gone through gates: the plain law. -/
import Derived.Test.YtcmmfamippdgbaaG1
import Derived.Test.YtcmmfamippdgbaaN2
namespace Go.Proofs.Ytcmmfamippdgbaa
open Vc

theorem sorted_ext : ∀ (xs ys : List Int), xs.Pairwise (· < ·) → ys.Pairwise (· < ·) → (∀ z, z ∈ xs ↔ z ∈ ys) → xs = ys
  | [], [], _, _, _ => rfl
  | [], b :: ys, _, _, h => by have := (h b).2 (List.mem_cons_self ..); simp at this
  | a :: xs, [], _, _, h => by have := (h a).1 (List.mem_cons_self ..); simp at this
  | a :: xs, b :: ys, hx, hy, h => by
    rw [List.pairwise_cons] at hx hy
    have e : a = b := by
      rcases List.mem_cons.1 ((h a).1 (List.mem_cons_self ..)) with e | h1
      · exact e
      · rcases List.mem_cons.1 ((h b).2 (List.mem_cons_self ..)) with e | h2
        · exact e.symm
        · have := hy.1 a h1; have := hx.1 b h2; omega
    subst e
    rw [sorted_ext xs ys hx.2 hy.2 (fun z => ?_)]
    constructor
    · intro hz
      rcases List.mem_cons.1 ((h z).1 (List.mem_cons_of_mem _ hz)) with e | h1
      · subst e; exact absurd (hx.1 z hz) (by omega)
      · exact h1
    · intro hz
      rcases List.mem_cons.1 ((h z).2 (List.mem_cons_of_mem _ hz)) with e | h1
      · subst e; exact absurd (hy.1 z hz) (by omega)
      · exact h1

/-! ## put in its place -/
def notAbove (n x : Int) : Bool := !decide (n < x)
def posI (n : Int) (xs : List Int) : Nat := (xs.takeWhile (notAbove n)).length
def putI (n : Int) (xs : List Int) : List Int := xs.take (posI n xs) ++ n :: xs.drop (posI n xs)
theorem posI_eq {n : Int} {xs : List Int} {k : Nat} (hk : k ≤ xs.length) (ha : (xs.take k).all (notAbove n) = true) (hst : ∀ y, xs[k]? = some y → n < y) : posI n xs = k := by
  have e : xs.takeWhile (notAbove n) = xs.take k := by
    conv => lhs; rw [← List.take_append_drop k xs]
    rw [List.takeWhile_append_of_pos (fun a ha' => List.all_eq_true.1 ha a ha')]
    have : (xs.drop k).takeWhile (notAbove n) = [] := by
      rcases Nat.lt_or_ge k xs.length with hlt | hge
      · rw [List.drop_eq_getElem_cons hlt, List.takeWhile_cons]
        have := hst _ (List.getElem?_eq_getElem hlt)
        simp [notAbove, this]
      · rw [List.drop_eq_nil_of_le hge]; rfl
    rw [this, List.append_nil]
  rw [posI, e, List.length_take]; omega
theorem posI_spec (n : Int) : ∀ (xs : List Int), posI n xs ≤ xs.length ∧ (xs.take (posI n xs)).all (notAbove n) = true ∧ ∀ y, xs[posI n xs]? = some y → n < y
  | [] => by simp [posI]
  | a :: t => by
    obtain ⟨i1, i2, i3⟩ := posI_spec n t
    cases hb : notAbove n a
    · have e : posI n (a :: t) = 0 := by simp [posI, hb]
      rw [e]
      refine ⟨by omega, rfl, fun y hy => ?_⟩
      simp only [List.getElem?_cons_zero, Option.some.injEq] at hy
      subst hy
      simpa [notAbove] using hb
    · have e : posI n (a :: t) = posI n t + 1 := by simp [posI, hb]
      rw [e]
      refine ⟨by simp; omega, by simp only [List.take_succ_cons, List.all_cons, hb, i2]; rfl, fun y hy => i3 y (by simpa using hy)⟩
theorem putI_len (n : Int) (xs : List Int) : (putI n xs).length = xs.length + 1 := by
  have := (posI_spec n xs).1
  simp [putI]; omega
theorem putI_mem (n : Int) (xs : List Int) (z : Int) : z ∈ putI n xs ↔ z = n ∨ z ∈ xs := by
  conv => rhs; rw [← List.take_append_drop (posI n xs) xs]
  simp only [putI, List.mem_append, List.mem_cons]
  constructor
  · rintro (h | h | h)
    · exact .inr (.inl h)
    · exact .inl h
    · exact .inr (.inr h)
  · rintro (h | h | h)
    · exact .inr (.inl h)
    · exact .inl h
    · exact .inr (.inr h)
theorem putI_sorted {n : Int} {xs : List Int} (h : xs.Pairwise (· < ·)) (hn : n ∉ xs) : (putI n xs).Pairwise (· < ·) := by
  obtain ⟨p1, p2, p3⟩ := posI_spec n xs
  unfold putI
  generalize posI n xs = p at *
  have hx : (xs.take p ++ xs.drop p).Pairwise (· < ·) := by rw [List.take_append_drop]; exact h
  rw [List.pairwise_append] at hx ⊢
  have hlo : ∀ a ∈ xs.take p, a < n := fun a ha => by
    have h1 := List.all_eq_true.1 p2 a ha
    have h2 : a ≠ n := fun e => hn (e ▸ List.mem_of_mem_take ha)
    simp only [notAbove, Bool.not_eq_true', decide_eq_false_iff_not] at h1; omega
  have hhi : ∀ a ∈ xs.drop p, n < a := fun a ha => by
    rcases Nat.lt_or_ge p xs.length with hlt | hge
    · have hd := List.drop_eq_getElem_cons hlt
      have h0 := p3 _ (List.getElem?_eq_getElem hlt)
      have hp := hx.2.1
      rw [hd] at ha hp
      rw [List.pairwise_cons] at hp
      rcases List.mem_cons.1 ha with rfl | ha
      · exact h0
      · have := hp.1 a ha; omega
    · rw [List.drop_eq_nil_of_le hge] at ha; simp at ha
  refine ⟨hx.1, List.pairwise_cons.2 ⟨hhi, hx.2.1⟩, fun a ha b hb => ?_⟩
  rcases List.mem_cons.1 hb with rfl | hb
  · exact hlo a ha
  · have := hlo a ha; have := hhi b hb; omega

/-! ## all of them, the reference's way -/
def addI (out : List Int) (x : Int) : List Int := if hasT x out = true then out else putI x out
theorem hasT_mem {x : Int} {xs : List Int} : hasT x xs = true ↔ x ∈ xs := by
  simp [hasT]
theorem addI_len (out : List Int) (x : Int) : (addI out x).length ≤ out.length + 1 := by
  unfold addI; split
  · omega
  · rw [putI_len]; omega
theorem foldI_len : ∀ (xs out : List Int), (xs.foldl addI out).length ≤ out.length + xs.length
  | [], out => by simp
  | a :: t, out => by
    rw [List.foldl_cons]
    have h1 := foldI_len t (addI out a)
    have h2 := addI_len out a
    simp only [List.length_cons]; omega
theorem foldI_spec : ∀ (xs out : List Int), out.Pairwise (· < ·) → (xs.foldl addI out).Pairwise (· < ·) ∧ ∀ z, z ∈ xs.foldl addI out ↔ z ∈ out ∨ z ∈ xs
  | [], out, h => ⟨h, fun z => by simp⟩
  | a :: t, out, h => by
    rw [List.foldl_cons]
    have hs : (addI out a).Pairwise (· < ·) ∧ ∀ z, z ∈ addI out a ↔ z = a ∨ z ∈ out := by
      unfold addI
      split
      · rename_i hm
        refine ⟨h, fun z => ⟨.inr, ?_⟩⟩
        rintro (rfl | h')
        · exact hasT_mem.1 hm
        · exact h'
      · rename_i hm
        exact ⟨putI_sorted h (fun h' => hm (hasT_mem.2 h')), putI_mem a out⟩
    obtain ⟨h1, h2⟩ := foldI_spec t (addI out a) hs.1
    refine ⟨h1, fun z => ?_⟩
    rw [h2, hs.2, List.mem_cons]
    constructor
    · rintro ((h | h) | h)
      · exact .inr (.inl h)
      · exact .inl h
      · exact .inr (.inr h)
    · rintro (h | h | h)
      · exact .inl (.inr h)
      · exact .inl (.inl h)
      · exact .inr h
/-! ## the program's way -/
theorem compactUpTo_spec {d : Array Int} (hd : ∀ i j, i ≤ j → j < d.size → d[i]! ≤ d[j]!) : ∀ m, m ≤ d.size → (Lib.compactUpTo d m).Pairwise (· < ·) ∧ ∀ z, z ∈ Lib.compactUpTo d m ↔ ∃ j, j < m ∧ d[j]! = z
  | 0, _ => by simp [Lib.compactUpTo]
  | m + 1, hm => by
    obtain ⟨h1, h2⟩ := compactUpTo_spec hd m (by omega)
    rw [Lib.compactUpTo_succ]
    by_cases hk : Lib.keeps d m = true
    · rw [if_pos hk]
      refine ⟨List.pairwise_append.2 ⟨h1, List.pairwise_singleton _ _, fun a ha b hb => ?_⟩, fun z => ?_⟩
      · simp only [List.mem_singleton] at hb
        subst hb
        obtain ⟨j, hj, rfl⟩ := (h2 a).1 ha
        have hm0 : m ≠ 0 := by omega
        simp only [Lib.keeps, decide_eq_true_eq, hm0, false_or] at hk
        have e1 := hd j (m - 1) (by omega) (by omega)
        have e2 := hd (m - 1) m (by omega) (by omega)
        omega
      · rw [List.mem_append, h2, List.mem_singleton]
        constructor
        · rintro (⟨j, hj, e⟩ | e)
          · exact ⟨j, by omega, e⟩
          · exact ⟨m, by omega, e.symm⟩
        · rintro ⟨j, hj, e⟩
          rcases Nat.lt_or_ge j m with hlt | hge
          · exact .inl ⟨j, hlt, e⟩
          · have : j = m := by omega
            subst this; exact .inr e.symm
    · rw [if_neg hk, List.append_nil]
      refine ⟨h1, fun z => ?_⟩
      rw [h2]
      have hk' : Lib.keeps d m = false := by simpa using hk
      simp only [Lib.keeps, decide_eq_false_iff_not, not_or, Decidable.not_not] at hk'
      constructor
      · rintro ⟨j, hj, e⟩; exact ⟨j, by omega, e⟩
      · rintro ⟨j, hj, e⟩
        rcases Nat.lt_or_ge j m with hlt | hge
        · exact ⟨j, hlt, e⟩
        · have : j = m := by omega
          subst this; exact ⟨j - 1, by omega, by rw [← hk'.2]; exact e⟩
theorem sortI_le (xs : List Int) : (sortI xs).Pairwise (· ≤ ·) := by
  have := List.pairwise_mergeSort (le := fun x y : Int => decide (x ≤ y)) (fun a b c h1 h2 => by simp at *; omega) (fun a b => by simp; omega) xs
  exact this.imp (fun h => by simpa using h)
theorem sortI_mem (xs : List Int) (z : Int) : z ∈ sortI xs ↔ z ∈ xs := by simp [sortI]
theorem compact_spec {xs : List Int} (h : xs.Pairwise (· ≤ ·)) : (Lib.compact xs).Pairwise (· < ·) ∧ ∀ z, z ∈ Lib.compact xs ↔ z ∈ xs := by
  have hd : ∀ i j, i ≤ j → j < xs.toArray.size → xs.toArray[i]! ≤ xs.toArray[j]! := fun i j hij hj => by
    simp only [List.size_toArray] at hj
    rw [getElem!_pos xs.toArray i (by simp; omega), getElem!_pos xs.toArray j (by simpa using hj)]
    simp only [List.getElem_toArray]
    rcases Nat.eq_or_lt_of_le hij with rfl | hlt
    · omega
    · exact List.pairwise_iff_getElem.1 h i j (by omega) hj hlt
  obtain ⟨h1, h2⟩ := compactUpTo_spec hd xs.length (by simp)
  refine ⟨h1, fun z => ?_⟩
  unfold Lib.compact
  rw [h2, List.mem_iff_getElem]
  constructor
  · rintro ⟨j, hj, e⟩
    rw [getElem!_pos xs.toArray j (by simpa using hj)] at e
    exact ⟨j, hj, by simpa using e⟩
  · rintro ⟨j, hj, e⟩
    exact ⟨j, hj, by rw [getElem!_pos xs.toArray j (by simpa using hj)]; simpa using e⟩
def thr (ds : List (List Int)) : List Int := ds.flatten.foldl addI []
theorem thr_sort (ds : List (List Int)) : Lib.compact (sortI ds.flatten) = thr ds := by
  obtain ⟨h1, h2⟩ := compact_spec (sortI_le ds.flatten)
  obtain ⟨h3, h4⟩ := foldI_spec ds.flatten [] List.Pairwise.nil
  refine sorted_ext _ _ h1 h3 (fun z => ?_)
  unfold thr
  rw [h2, sortI_mem, h4]; simp
theorem thr_len (ds : List (List Int)) : (thr ds).length ≤ ds.flatten.length := by
  have := foldI_len ds.flatten []
  simpa [thr] using this
end Go.Proofs.Ytcmmfamippdgbaa
