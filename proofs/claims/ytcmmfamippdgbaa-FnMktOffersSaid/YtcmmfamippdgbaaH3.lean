/- Contracts: a market at its beginning; markets marked and held; the law FnExactMktNew, walked: it returns true. -/
import Derived.Test.YtcmmfamippdgbaaH1
import Derived.Test.YtcmmfamippdgbaaA5
namespace Go.Proofs.Ytcmmfamippdgbaa
open Vc

section
variable {P : Program} {w0 : World} {X : List Nat} {N : Nat} {ops : Array Oper} {Q : Exit → Act → World → Prop} {fr : Fr} {L Ls : List Res} {f : Nat} {l : Array Bool}
theorem Vc.WH.run3 (i j k : Nat) {o o' o'' : Oper} (hL : Ls.Sublist L) (hr : Region.ready .any ops l = [i, j, k]) (hi : ops[i]? = some o) (hj : ops[j]? = some o') (hk : ops[k]? = some o'')
    (h : WL false P w0 X N ops (AnyQ (fun w => St w0 X w Ls) P ops Q f (l.setIfInBounds i true)) [o] fr L)
    (h' : WL false P w0 X N ops (AnyQ (fun w => St w0 X w Ls) P ops Q f (l.setIfInBounds j true)) [o'] fr L)
    (h'' : WL false P w0 X N ops (AnyQ (fun w => St w0 X w Ls) P ops Q f (l.setIfInBounds k true)) [o''] fr L) : WH P w0 X N ops Q Ls (f + 1) l fr L := by
  unfold WL at h h' h''
  intro a w ha hs
  refine ⟨hs.sub hL, fun w' hk' => ⟨fun h0 => (by rw [hr] at h0; cases h0), fun m hm => ?_⟩⟩
  rw [hr] at hm
  simp only [List.mem_cons, List.not_mem_nil, or_false] at hm
  rcases hm with rfl | rfl | rfl
  · exact wpOp_of_list hi (h a w' ha (hs.of_keep hk'))
  · exact wpOp_of_list hj (h' a w' ha (hs.of_keep hk'))
  · exact wpOp_of_list hk (h'' a w' ha (hs.of_keep hk'))
end
def mktNew (xs : List Int) : Hou := if monOk xs = true ∧ sumW xs ≤ 100000 then ⟨[], xs, [], 0, List.replicate 5 0, List.replicate 5 0⟩ else ⟨[], [], [], 0, [], []⟩
theorem mktNew_clock (xs : List Int) : (mktNew xs).clock = 0 := by unfold mktNew; split <;> rfl
theorem mktNew_no {xs : List Int} (h : ¬ (monOk xs = true ∧ sumW xs ≤ 100000)) : mktNew xs = ⟨[], [], [], 0, [], []⟩ := by rw [mktNew, if_neg h]
theorem mktNew_yes {xs : List Int} (h : monOk xs = true) (h2 : sumW xs ≤ 100000) : mktNew xs = ⟨[], xs, [], 0, List.replicate 5 0, List.replicate 5 0⟩ := by rw [mktNew, if_pos ⟨h, h2⟩]
@[reducible] def houN : HouV := ⟨.slice none 0 0, .slice none 0 0, .slice none 0 0, .slice none 0 0, .slice none 0 0⟩
theorem St.houNil {w0 w : World} {X : List Nat} {L : List Res} (h : St w0 X w L) : St w0 X w [own entE 4 (.slice none 0 0) 118 ([] : List Ent), own intE 1 (.slice none 0 0) 3 ([] : List Int), own dealE 5 (.slice none 0 0) 70 ([] : List Deal), own intE 1 (.slice none 0 0) 3 ([] : List Int), own intE 1 (.slice none 0 0) 3 ([] : List Int)] :=
  (((((h.sub (List.nil_sublist _)).own_nil _ 0 rfl).own_nil _ 0 rfl).own_nil _ 0 rfl).own_nil _ 0 rfl).own_nil _ 0 rfl
theorem St.houTwo {w0 w : World} {X : List Nat} {L : List Res} {p n s : Value} {xs ys zs : List Int} (h : St w0 X w L) (hsel : Sel L [own intE 1 p 3 xs, own intE 1 n 3 ys, own intE 1 s 3 zs]) :
    St w0 X w [own entE 4 (.slice none 0 0) 118 ([] : List Ent), own intE 1 p 3 xs, own dealE 5 (.slice none 0 0) 70 ([] : List Deal), own intE 1 n 3 ys, own intE 1 s 3 zs] :=
  (((h.sel hsel).own_nil (E := dealE) (sz := 5) (α := Deal) 70 0 rfl).perm (.swap _ _ _)).own_nil _ 0 rfl
end Go.Proofs.Ytcmmfamippdgbaa
