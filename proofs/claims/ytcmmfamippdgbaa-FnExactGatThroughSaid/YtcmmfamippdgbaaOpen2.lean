/- How structs of structs and slices read. -/
import Derived.Test.YtcmmfamippdgbaaOpen
namespace Go.Proofs.Ytcmmfamippdgbaa.Vc
open Go.ChangeShapes Go.WideShapes Go.ChangeAt Go.RowKit

section
variable {P : Program}
/-- The fields fs, from cell i of n on, read as E y. -/
def OpensAt (P : Program) (n : Nat) (fs : List Field) (i : Nat) {α : Type} (E : α → List Value) (Good : World → α → Prop) : Prop :=
  ∀ {H : Type} (enc : TypeId × Value → H) (w : World) (base : Nat) (spare : Nat → Bool) (held : Bool) (fuel : Nat) (cs : List Value), cs.length = n →
    (∀ (j : Nat) (f : Field), fs[j]? = some f → ∃ y, DataW.trod enc P w base spare held fuel f.type ((cs.drop f.offset).take (P.cellsOf f.type)) = some y) → ∃ y, cs.drop i = E y ∧ Good w y
theorem OpensAt.nil {n : Nat} : OpensAt P n [] n (fun _ : Unit => []) (fun _ _ => True) := by
  intro H enc w base spare held fuel cs hl _
  exact ⟨(), List.drop_eq_nil_of_le (by omega), trivial⟩
theorem OpensAt.cons {n i : Nat} {f : Field} {fs : List Field} {α β : Type} {E : α → List Value} {E' : β → List Value} {G : World → α → Prop} {G' : World → β → Prop}
    (h : Opens P f.type E G) (ho : f.offset = i) (hr : OpensAt P n fs (i + P.cellsOf f.type) E' G') : OpensAt P n (f :: fs) i (fun x : α × β => E x.1 ++ E' x.2) (fun w x => G w x.1 ∧ G' w x.2) := by
  intro H enc w base spare held fuel cs hl hf
  obtain ⟨y, hy⟩ := hf 0 f rfl
  obtain ⟨a, ha, hga⟩ := h enc w base spare held fuel _ _ hy
  obtain ⟨b, hb, hgb⟩ := hr enc w base spare held fuel cs hl (fun j g hj => hf (j + 1) g hj)
  refine ⟨(a, b), ?_, hga, hgb⟩
  rw [ho] at ha
  show cs.drop i = E a ++ E' b
  rw [← ha, ← hb, ← List.drop_drop, List.take_append_drop]
theorem OpensAt.struct {t : TypeId} {fs : Array Field} {n : Nat} {α : Type} {E : α → List Value} {G : World → α → Prop} (hu : P.underlying t = some (.struct fs)) (hn : P.cellsOf t = n) (h : OpensAt P n fs.toList 0 E G) : Opens P t E G := by
  intro H enc w base spare held fuel cs x hx
  obtain ⟨xs, m, _, _, hl, hlen, hf⟩ := DataW.trod_struct hu hx
  obtain ⟨y, hy, hg⟩ := h enc w base spare held m cs (by rw [hl, hn]) (fun j f hj => by
    have hj' : fs[j]? = some f := by simpa using hj
    have hlt : j < xs.length := by rw [hlen]; exact (Array.getElem?_eq_some_iff.1 hj').1
    exact ⟨xs[j], by rw [hf j f hj', List.getElem?_eq_getElem hlt]⟩)
  exact ⟨y, by simpa using hy, hg⟩
end
end Go.Proofs.Ytcmmfamippdgbaa.Vc
