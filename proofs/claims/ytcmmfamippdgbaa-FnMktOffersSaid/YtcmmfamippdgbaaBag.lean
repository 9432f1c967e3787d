/- Many resources as one; slices whose elements own memory. -/
import Derived.Test.YtcmmfamippdgbaaTypes
namespace Go.Proofs.Ytcmmfamippdgbaa.Vc
open Go.RowKit

/-- Many resources as one. -/
@[irreducible] def bag (Ls : List Res) : Res where
  foot := Ls.flatMap Res.foot
  holds w := (∀ r ∈ Ls, r.holds w) ∧ Ls.Pairwise Res.apart
  here w h b hb := by
    obtain ⟨r, hr, hb⟩ := List.mem_flatMap.1 hb
    exact r.here w (h.1 r hr) b hb
  loc w w' h hw := ⟨fun r hr => r.loc w w' (fun b hb => h b (List.mem_flatMap.2 ⟨r, hr, hb⟩)) (hw.1 r hr), hw.2⟩
theorem bag_foot (Ls : List Res) : (bag Ls).foot = Ls.flatMap Res.foot := by unfold bag; rfl
theorem bag_holds {Ls : List Res} {w : World} : (bag Ls).holds w ↔ (∀ r ∈ Ls, r.holds w) ∧ Ls.Pairwise Res.apart := by unfold bag; rfl
theorem mem_bag {Ls : List Res} {r : Res} {b : Nat} (hr : r ∈ Ls) (hb : b ∈ r.foot) : b ∈ (bag Ls).foot := by rw [bag_foot]; exact List.mem_flatMap.2 ⟨r, hr, hb⟩
theorem St.bag {w0 w : World} {X : List Nat} {Ls L : List Res} : St w0 X w (Vc.bag Ls :: L) ↔ St w0 X w (Ls ++ L) := by
  constructor
  · intro h
    have hb := bag_holds.1 (h.res _ m0)
    have hap := List.pairwise_cons.1 h.apart
    refine ⟨h.keep, fun r hr => ?_, List.pairwise_append.2 ⟨hb.2, hap.2, fun r hr s hs b hbr hbs => hap.1 s hs b (mem_bag hr hbr) hbs⟩, fun r hr b hbr => ?_⟩
    · rcases List.mem_append.1 hr with hr | hr
      · exact hb.1 r hr
      · exact h.res r (ms hr)
    · rcases List.mem_append.1 hr with hr | hr
      · exact h.new _ m0 b (mem_bag hr hbr)
      · exact h.new r (ms hr) b hbr
  · intro h
    have hap := List.pairwise_append.1 h.apart
    refine ⟨h.keep, fun r hr => ?_, List.pairwise_cons.2 ⟨fun s hs b hb hbs => ?_, hap.2.1⟩, fun r hr b hbr => ?_⟩
    · rcases List.mem_cons.1 hr with rfl | hr
      · exact bag_holds.2 ⟨fun r hr => h.res r (List.mem_append_left _ hr), hap.1⟩
      · exact h.res r (List.mem_append_right _ hr)
    · rw [bag_foot] at hb
      obtain ⟨r, hr, hbr⟩ := List.mem_flatMap.1 hb
      exact hap.2.2 r hr s hs b hbr hbs
    · rcases List.mem_cons.1 hr with rfl | hr
      · rw [bag_foot] at hbr
        obtain ⟨r, hr, hbr⟩ := List.mem_flatMap.1 hbr
        exact h.new r (List.mem_append_left _ hr) b hbr
      · exact h.new r (List.mem_append_right _ hr) b hbr

/-- The slice value v owns the row of the elements ys, and what each of these owns. -/
def nest {α : Type} (E : α → List Value) (O : α → List Res) (sz : Nat) (v : Value) (t : TypeId) (ys : List α) : Res := bag (own E sz v t ys :: ys.flatMap O)
theorem nest_own {α : Type} {E : α → List Value} {O : α → List Res} {sz : Nat} {v : Value} {t : TypeId} {ys : List α} {w : World} (h : (nest E O sz v t ys).holds w) : (own E sz v t ys).holds w := (bag_holds.1 h).1 _ m0
theorem nest_el {α : Type} {E : α → List Value} {O : α → List Res} {sz : Nat} {v : Value} {t : TypeId} {ys : List α} {w : World} (h : (nest E O sz v t ys).holds w) {y : α} (hy : y ∈ ys) {r : Res} (hr : r ∈ O y) : r.holds w :=
  (bag_holds.1 h).1 _ (ms (List.mem_flatMap.2 ⟨y, hy, hr⟩))
end Go.Proofs.Ytcmmfamippdgbaa.Vc
