/- Plain laws of heads. -/
import Derived.Test.YtihphbicoliioaaL2
import Derived.Test.YtihphbicoliioaaO3
namespace Go.Proofs.Ytihphbicoliioaa
open Vc

theorem hedCells (a b : Hed) : eqCells (hedE a) (hedE b) = decide (a = b) := by cases a; cases b; simp [eqCells]
section
variable {q : Bool} {P : Program} {w0 : World} {X : List Nat} {N : Nat} {ops : Array Oper} {Q : Exit → Act → World → Prop} {rest : List Oper} {fr : Fr} {L : List Res} {d ty : Nat} {ps : String} {af : Array Edge}
theorem Vc.WL.neqsHS {x y : Operand} {a : Hed} {t t' : Nat} [hT : TEq P t [false, false, false]] (hx : ev fr x = some (.agg (hedE a).toArray)) (hy : ev fr y = some (.agg (hedE a).toArray)) (hN : Nat.ble (d + 1) N = true)
    (k : WL q P w0 X N ops Q rest ((d, .bool false) :: fr) L) : WL q P w0 X N ops Q (⟨some d, .binOp .neq t x y t', ty, ps, af, none⟩ :: rest) fr L := WL.neqs hx hy rfl hN (by rw [hedCells, decide_eq_true rfl]; exact k)
theorem Vc.WL.eqlsHS {x y : Operand} {a : Hed} {t t' : Nat} [hT : TEq P t [false, false, false]] (hx : ev fr x = some (.agg (hedE a).toArray)) (hy : ev fr y = some (.agg (hedE a).toArray)) (hN : Nat.ble (d + 1) N = true)
    (k : WL q P w0 X N ops Q rest ((d, .bool true) :: fr) L) : WL q P w0 X N ops Q (⟨some d, .binOp .eql t x y t', ty, ps, af, none⟩ :: rest) fr L := WL.eqls hx hy rfl hN (by rw [hedCells, decide_eq_true rfl]; exact k)
theorem Vc.WL.neqsH {x y : Operand} {a b : Hed} {t t' : Nat} [hT : TEq P t [false, false, false]] (hx : ev fr x = some (.agg (hedE a).toArray)) (hy : ev fr y = some (.agg (hedE b).toArray)) (hN : Nat.ble (d + 1) N = true)
    (k : WL q P w0 X N ops Q rest ((d, .bool (!decide (a = b))) :: fr) L) : WL q P w0 X N ops Q (⟨some d, .binOp .neq t x y t', ty, ps, af, none⟩ :: rest) fr L := WL.neqs hx hy rfl hN (by rw [hedCells]; exact k)
end
theorem hedCases (xs : List Ent) : ((hedOf xs).2 = false ∧ (hedOf xs).1 = hed0 ∧ (ownFold xs).2 = false) ∨
    ((hedOf xs).2 = true ∧ (ownFold xs).2 = true ∧ hedOk (hedOf xs).1 = true ∧ (hedOf xs).1.size = xs.length ∧ (hedOf xs).1.log = rootL (xs.map entLeaf) ∧ (hedOf xs).1.own = ownRoot (ownFold xs).1 ∧ xs.length ≤ 40) := by
  cases h : (ownFold xs).2
  · exact .inl (by rw [hedOf, h, if_neg (by simp)]; exact ⟨rfl, rfl, rfl⟩)
  · have h40 := ownFold_ok h
    refine .inr ?_
    rw [hedOf, h, if_pos rfl]
    refine ⟨rfl, rfl, ?_, rfl, rfl, rfl, h40⟩
    simp only [hedOk, Bool.and_eq_true]
    exact ⟨⟨inB_true.2 (by omega), (rootL_mx (entLeaves_mx xs)).inB⟩, (ownRoot_mx _).inB⟩
theorem hedAt_yes {xs : List Ent} {n : Int} (h : (hedAt xs n).2 = true) : (0 ≤ n ∧ n ≤ xs.length) ∧ hedAt xs n = hedOf (xs.take n.toNat) ∧ (hedAt xs n).1.size = n ∧ hedOk (hedAt xs n).1 = true := by
  unfold hedAt at h ⊢
  split at h
  · rename_i hin
    have h' := inB_true.1 hin
    rw [if_pos hin]
    rcases hedCases (xs.take n.toNat) with ⟨e, _⟩ | ⟨_, _, hk, hsz, _⟩
    · rw [e] at h; cases h
    · exact ⟨h', rfl, by rw [hsz, List.length_take]; omega, hk⟩
  · cases h
theorem hedAt_fits (xs : List Ent) (n : Int) : 0 ≤ (hedAt xs n).1.size ∧ (hedAt xs n).1.size ≤ 40 := by
  unfold hedAt
  split
  · rcases hedCases (xs.take n.toNat) with ⟨_, e, _⟩ | ⟨_, _, hk, _⟩
    · rw [e]; simp [hed0]
    · simp only [hedOk, Bool.and_eq_true] at hk; exact inB_true.1 hk.1.1
  · simp [hed0]
end Go.Proofs.Ytihphbicoliioaa
