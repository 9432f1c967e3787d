/- Contract: a market's copy, the reference's (written by copy5.py). -/
import Derived.Test.YtcmmfamippdgbaaH4
import Derived.Test.YtcmmfamippdgbaaD14
namespace Go.Proofs.Ytcmmfamippdgbaa.Vc
open Go.RowKit
section
variable {P : Program} {w0 : World} {X : List Nat} {N : Nat} {ops : Array Oper} {Q : Exit → Act → World → Prop} {fr : Fr} {L Ls : List Res} {f : Nat} {l : Array Bool}
theorem WH.step (rs : List Nat) (hL : Ls.Sublist L) (hr : Region.ready .any ops l = rs) (hne : rs ≠ []) (h : ∀ j ∈ rs, ∃ o, ops[j]? = some o ∧ WL false P w0 X N ops (AnyQ (fun w => St w0 X w Ls) P ops Q f (l.setIfInBounds j true)) [o] fr L) :
    WH P w0 X N ops Q Ls (f + 1) l fr L := by
  intro a w ha hs
  refine ⟨hs.sub hL, fun w' hk => ⟨fun h0 => (by rw [hr] at h0; exact absurd h0 hne), fun j hj => ?_⟩⟩
  rw [hr] at hj
  obtain ⟨o, ho, hw⟩ := h j hj
  unfold WL at hw
  exact wpOp_of_list ho (hw a w' ha (hs.of_keep hk))
/-- midway in a drawing region: the state behind a name -/
theorem WH.abs (h : ∀ W : Nat → Array Bool → Fr → List Res → Prop, (∀ f l fr L, WH P w0 X N ops Q Ls f l fr L → W f l fr L) →
    (∀ f l fr L, W f l fr L → WQ w0 X N (AnyQ (fun w => St w0 X w Ls) P ops Q f l) .normal fr L) →
    (∀ f l l' fr fr' L L', l = l' → Fr.le fr' fr → (∀ w, St w0 X w L → St w0 X w L') → W f l' fr' L' → W f l fr L) → W f l fr L) : WH P w0 X N ops Q Ls f l fr L :=
  h (WH P w0 X N ops Q Ls) (fun _ _ _ _ h => h) (fun _ _ _ _ h => WQ.any h) (fun _ _ _ _ _ _ _ e hfr hL h => by subst e; exact fun a w ha hs => h a w (ha.sub hfr.get) (hL w hs))
end
end Go.Proofs.Ytcmmfamippdgbaa.Vc
namespace Go.Proofs.Ytcmmfamippdgbaa
open Vc

attribute [local irreducible] Vc.WH
set_option maxHeartbeats 12800000 in
set_option maxRecDepth 10000 in
theorem l7Copy_c (h : HouV) (m : Hou) (c : Int) (w : World) (hs : HouS h m w) (hl : HouL m 1099511627) :
    CallsTo Try.prog 154 [.agg (houE h c).toArray] w [] (B := HouV) HouOne (fun u => .agg (houE u c).toArray) (fun u => houR u m) := by
  obtain ⟨hs0, hs1, hs2, hs3, hs4⟩ := hs
  obtain ⟨hl0, hl1, hl2, hl3, hl4⟩ := hl
  have o0 := hs0.one
  have o1 := hs1.one
  have o2 := hs2.one
  have o3 := hs3.one
  have o4 := hs4.one
  refine CallsTo.enter Try.func154 rfl Try.ntmps154 rfl rfl (St.start w []) ?_
  repeat' (first|(refine WL.dMove ?_;refine WL.move rfl rfl ?_)|(refine WL.dAssign ?_;refine WL.assign rfl rfl ?_)|(refine WL.dOp ?_;(first|refine WL.boxA rfl rfl (fun b1 => ?_)|refine WL.alloc rfl (fun b2 => ?_)))|refine WL.nil ?_|(refine WC.d ?_;(first|refine WC.stopR 1 ?_|refine WC.seq ?_|refine WC.region ?_))|(refine WQ.d ?_;refine WQ.then_normal ?_))
  refine Mark.go ?_
  refine WC.absR (A := HouV) [2] HouOne (fun _ => []) (fun u => [own entE 4 u.l 118 m.log, own intE 1 u.p 3 m.purses, own dealE 5 u.d 70 m.deals, own intE 1 u.n 3 m.nums, own intE 1 u.s 3 m.said, blk b2 62 (houE u c)]) (by repeat (first | exact .nil | apply Pick.cons rfl)) (by repeat (first | assumption | with_reducible apply PanicOk.then_ | with_reducible apply PanicOk.block | exact (fun _ _ d _ _ h => by cases d <;> exact h))) (fun Q' hQ' => ?_) (fun u hu => ?_)
  · refine WC.drawsX [blk b1 62 (houE h c)] Ytcmmfamippdgbaa.wide ?_
    repeat' (first|(refine WL.dMove ?_;refine WL.move rfl rfl ?_)|(refine WL.dAssign ?_;refine WL.assign rfl rfl ?_)|(refine WL.dLoad ?_;refine WL.ld1 rfl rfl rfl ?_)|(refine WL.dField ?_;refine WL.fieldV rfl rfl ?_)|refine WL.nil ?_|(refine WQ.d ?_;refine WQ.held ?_)|(first|(refine WH.quietD (f := 23) 1 (by decide +kernel) rfl (by repeat (first|assumption|with_reducible apply PanicOk.then_|with_reducible apply PanicOk.block|exact (fun _ _ d _ _ h => by cases d <;> exact h))) (by repeat (first|exact List.nil_sublist _|exact List.Sublist.refl _|apply List.Sublist.cons_cons|apply List.Sublist.cons)) ?_)|(refine WH.quietD (f := 22) 2 (by decide +kernel) rfl (by repeat (first|assumption|with_reducible apply PanicOk.then_|with_reducible apply PanicOk.block|exact (fun _ _ d _ _ h => by cases d <;> exact h))) (by repeat (first|exact List.nil_sublist _|exact List.Sublist.refl _|apply List.Sublist.cons_cons|apply List.Sublist.cons)) ?_)|(refine WH.quietD (f := 21) 5 (by decide +kernel) rfl (by repeat (first|assumption|with_reducible apply PanicOk.then_|with_reducible apply PanicOk.block|exact (fun _ _ d _ _ h => by cases d <;> exact h))) (by repeat (first|exact List.nil_sublist _|exact List.Sublist.refl _|apply List.Sublist.cons_cons|apply List.Sublist.cons)) ?_)|(refine WH.quietD (f := 20) 6 (by decide +kernel) rfl (by repeat (first|assumption|with_reducible apply PanicOk.then_|with_reducible apply PanicOk.block|exact (fun _ _ d _ _ h => by cases d <;> exact h))) (by repeat (first|exact List.nil_sublist _|exact List.Sublist.refl _|apply List.Sublist.cons_cons|apply List.Sublist.cons)) ?_)|(refine WH.quietD (f := 19) 9 (by decide +kernel) rfl (by repeat (first|assumption|with_reducible apply PanicOk.then_|with_reducible apply PanicOk.block|exact (fun _ _ d _ _ h => by cases d <;> exact h))) (by repeat (first|exact List.nil_sublist _|exact List.Sublist.refl _|apply List.Sublist.cons_cons|apply List.Sublist.cons)) ?_)|(refine WH.quietD (f := 18) 10 (by decide +kernel) rfl (by repeat (first|assumption|with_reducible apply PanicOk.then_|with_reducible apply PanicOk.block|exact (fun _ _ d _ _ h => by cases d <;> exact h))) (by repeat (first|exact List.nil_sublist _|exact List.Sublist.refl _|apply List.Sublist.cons_cons|apply List.Sublist.cons)) ?_)|(refine WH.quietD (f := 17) 12 (by decide +kernel) rfl (by repeat (first|assumption|with_reducible apply PanicOk.then_|with_reducible apply PanicOk.block|exact (fun _ _ d _ _ h => by cases d <;> exact h))) (by repeat (first|exact List.nil_sublist _|exact List.Sublist.refl _|apply List.Sublist.cons_cons|apply List.Sublist.cons)) ?_)|(refine WH.quietD (f := 16) 13 (by decide +kernel) rfl (by repeat (first|assumption|with_reducible apply PanicOk.then_|with_reducible apply PanicOk.block|exact (fun _ _ d _ _ h => by cases d <;> exact h))) (by repeat (first|exact List.nil_sublist _|exact List.Sublist.refl _|apply List.Sublist.cons_cons|apply List.Sublist.cons)) ?_)|(refine WH.quietD (f := 15) 15 (by decide +kernel) rfl (by repeat (first|assumption|with_reducible apply PanicOk.then_|with_reducible apply PanicOk.block|exact (fun _ _ d _ _ h => by cases d <;> exact h))) (by repeat (first|exact List.nil_sublist _|exact List.Sublist.refl _|apply List.Sublist.cons_cons|apply List.Sublist.cons)) ?_)|(refine WH.quietD (f := 14) 16 (by decide +kernel) rfl (by repeat (first|assumption|with_reducible apply PanicOk.then_|with_reducible apply PanicOk.block|exact (fun _ _ d _ _ h => by cases d <;> exact h))) (by repeat (first|exact List.nil_sublist _|exact List.Sublist.refl _|apply List.Sublist.cons_cons|apply List.Sublist.cons)) ?_)|(refine WH.quietD (f := 13) 19 (by decide +kernel) rfl (by repeat (first|assumption|with_reducible apply PanicOk.then_|with_reducible apply PanicOk.block|exact (fun _ _ d _ _ h => by cases d <;> exact h))) (by repeat (first|exact List.nil_sublist _|exact List.Sublist.refl _|apply List.Sublist.cons_cons|apply List.Sublist.cons)) ?_)|(refine WH.quietD (f := 12) 20 (by decide +kernel) rfl (by repeat (first|assumption|with_reducible apply PanicOk.then_|with_reducible apply PanicOk.block|exact (fun _ _ d _ _ h => by cases d <;> exact h))) (by repeat (first|exact List.nil_sublist _|exact List.Sublist.refl _|apply List.Sublist.cons_cons|apply List.Sublist.cons)) ?_)))
    refine WH.abs (fun W hto hany hsub => ?_)
    have S5_ : ∀ (c0 c1 c2 c3 c4 : Value), c0.oneCell' = true → c1.oneCell' = true → c2.oneCell' = true → c3.oneCell' = true → c4.oneCell' = true → W 2 #[true, true, true, true, true, true, true, true, true, true, true, true, true, true, true, true, true, true, true, true, true, true, false, false] ([(6, c0), (10, c1), (14, c2), (20, c3), (24, c4)] ++ [(5, h.l), (9, h.p), (13, h.d), (16, .int .i64 c), (19, h.n), (23, h.s), (2, .pointer (some ⟨b2, 0, none⟩))]) [own entE 4 c0 118 m.log, own intE 1 c1 3 m.purses, own dealE 5 c2 70 m.deals, own intE 1 c3 3 m.nums, own intE 1 c4 3 m.said, blk b2 62 [.slice none 0 0, .slice none 0 0, .slice none 0 0, .int .i64 0, .slice none 0 0, .slice none 0 0], blk b1 62 (houE h c)] := by
      intro c0 c1 c2 c3 c4 hc0 hc1 hc2 hc3 hc4
      apply hto
      repeat' (first|(refine WL.dMove ?_;refine WL.move rfl rfl ?_)|(refine WL.dAssign ?_;refine WL.assign rfl rfl ?_)|(refine WL.dStore ?_;(refine WL.stA rfl rfl rfl (by simp only [List.all_cons, List.all_nil, Bool.and_true, *];rfl) ?_))|(refine WL.dOp ?_;refine WL.build (by repeat (first|exact .nil|apply Bld.one' rfl rfl (by first|rfl|assumption)|apply Bld.agg' rfl rfl rfl)) rfl ?_)|refine WL.nil ?_|(refine WQ.d ?_;(first|refine WQ.held ?_|refine WQ.any ?_))|(first|(refine WH.quietD (f := 1) 22 (by decide +kernel) rfl (by repeat (first|assumption|with_reducible apply PanicOk.then_|with_reducible apply PanicOk.block|exact (fun _ _ d _ _ h => by cases d <;> exact h))) (by repeat (first|exact List.nil_sublist _|exact List.Sublist.refl _|apply List.Sublist.cons_cons|apply List.Sublist.cons)) ?_)|refine WH.runD (f := 0) 23 (by decide +kernel) rfl (by repeat (first|exact List.nil_sublist _|exact List.Sublist.refl _|apply List.Sublist.cons_cons|apply List.Sublist.cons)) ?_|refine WH.doneD (f := 0) (by decide +kernel) (by repeat (first|exact List.nil_sublist _|exact List.Sublist.refl _|apply List.Sublist.cons_cons|apply List.Sublist.cons)) ?_))
      exact WQ.met (A := HouV) ⟨c0, c1, c2, c3, c4⟩ ⟨hc0, hc1, hc2, hc3, hc4⟩ (by repeat (first | exact trivial | refine ⟨rfl, ?_⟩)) (by repeat (first | exact trivial | refine ⟨rfl, ?_⟩)) (fun _ h => h.sel (by repeat (first | exact Sel.nil | apply Sel.cons (by repeat (first | exact Del.here | apply Del.there)))))
    have S4_4 : ∀ (c0 c1 c2 c3 a4 : Value), c0.oneCell' = true → c1.oneCell' = true → c2.oneCell' = true → c3.oneCell' = true → a4.oneCell' = true → W 3 #[true, true, true, true, true, true, true, true, true, true, true, true, true, true, true, true, true, true, true, true, true, false, false, false] ([(6, c0), (10, c1), (14, c2), (20, c3), (21, a4)] ++ [(5, h.l), (9, h.p), (13, h.d), (16, .int .i64 c), (19, h.n), (23, h.s), (2, .pointer (some ⟨b2, 0, none⟩))]) [own entE 4 c0 118 m.log, own intE 1 c1 3 m.purses, own dealE 5 c2 70 m.deals, own intE 1 c3 3 m.nums, own intE 1 a4 3 [], blk b2 62 [.slice none 0 0, .slice none 0 0, .slice none 0 0, .int .i64 0, .slice none 0 0, .slice none 0 0], blk b1 62 (houE h c)] := by
      intro c0 c1 c2 c3 a4 hc0 hc1 hc2 hc3 ha4
      apply hto
      refine WH.step [21] (by repeat (first | exact List.nil_sublist _ | exact List.Sublist.refl _ | apply List.Sublist.cons_cons | apply List.Sublist.cons)) (by decide +kernel) (by decide) ?_
      intro j hj
      simp only [List.mem_cons, List.not_mem_nil, or_false] at hj
      subst hj
      · refine ⟨_, rfl, ?_⟩
        refine WL.dCall ?_
        refine WL.apX (us := m.said) rfl rfl hs4 (by simp; omega) rfl rfl (fun x hx => ?_)
        refine WL.nil ?_
        exact hany _ _ _ _ (hsub _ _ _ _ _ _ _ (by decide +kernel) (by repeat (first | exact trivial | refine ⟨rfl, ?_⟩)) (fun _ h => h.sel (by repeat (first | exact Sel.nil | apply Sel.cons (by repeat (first | exact Del.here | apply Del.there))))) (S5_ c0 c1 c2 c3 x hc0 hc1 hc2 hc3 hx))
    have S4_ : ∀ (c0 c1 c2 c3 : Value), c0.oneCell' = true → c1.oneCell' = true → c2.oneCell' = true → c3.oneCell' = true → W 4 #[true, true, true, true, true, true, true, true, true, true, true, true, true, true, true, true, true, true, false, true, true, false, false, false] ([(6, c0), (10, c1), (14, c2), (20, c3)] ++ [(5, h.l), (9, h.p), (13, h.d), (16, .int .i64 c), (19, h.n), (23, h.s), (2, .pointer (some ⟨b2, 0, none⟩))]) [own entE 4 c0 118 m.log, own intE 1 c1 3 m.purses, own dealE 5 c2 70 m.deals, own intE 1 c3 3 m.nums, blk b2 62 [.slice none 0 0, .slice none 0 0, .slice none 0 0, .int .i64 0, .slice none 0 0, .slice none 0 0], blk b1 62 (houE h c)] := by
      intro c0 c1 c2 c3 hc0 hc1 hc2 hc3
      apply hto
      refine WH.step [18] (by repeat (first | exact List.nil_sublist _ | exact List.Sublist.refl _ | apply List.Sublist.cons_cons | apply List.Sublist.cons)) (by decide +kernel) (by decide) ?_
      intro j hj
      simp only [List.mem_cons, List.not_mem_nil, or_false] at hj
      subst hj
      · refine ⟨_, rfl, ?_⟩
        refine WL.dOp ?_
        refine WL.lit (E := intE) (ys := []) .nil rfl rfl rfl (fun x hx => ?_)
        refine WL.nil ?_
        exact hany _ _ _ _ (hsub _ _ _ _ _ _ _ (by decide +kernel) (by repeat (first | exact trivial | refine ⟨rfl, ?_⟩)) (fun _ h => h.sel (by repeat (first | exact Sel.nil | apply Sel.cons (by repeat (first | exact Del.here | apply Del.there))))) (S4_4 c0 c1 c2 c3 x hc0 hc1 hc2 hc3 hx))
    have S3_34 : ∀ (c0 c1 c2 a3 a4 : Value), c0.oneCell' = true → c1.oneCell' = true → c2.oneCell' = true → a3.oneCell' = true → a4.oneCell' = true → W 4 #[true, true, true, true, true, true, true, true, true, true, true, true, true, true, true, true, true, false, true, true, true, false, false, false] ([(6, c0), (10, c1), (14, c2), (17, a3), (21, a4)] ++ [(5, h.l), (9, h.p), (13, h.d), (16, .int .i64 c), (19, h.n), (23, h.s), (2, .pointer (some ⟨b2, 0, none⟩))]) [own entE 4 c0 118 m.log, own intE 1 c1 3 m.purses, own dealE 5 c2 70 m.deals, own intE 1 a3 3 [], own intE 1 a4 3 [], blk b2 62 [.slice none 0 0, .slice none 0 0, .slice none 0 0, .int .i64 0, .slice none 0 0, .slice none 0 0], blk b1 62 (houE h c)] := by
      intro c0 c1 c2 a3 a4 hc0 hc1 hc2 ha3 ha4
      apply hto
      refine WH.step [17] (by repeat (first | exact List.nil_sublist _ | exact List.Sublist.refl _ | apply List.Sublist.cons_cons | apply List.Sublist.cons)) (by decide +kernel) (by decide) ?_
      intro j hj
      simp only [List.mem_cons, List.not_mem_nil, or_false] at hj
      subst hj
      · refine ⟨_, rfl, ?_⟩
        refine WL.dCall ?_
        refine WL.apX (us := m.nums) rfl rfl hs3 (by simp; omega) rfl rfl (fun x hx => ?_)
        refine WL.nil ?_
        exact hany _ _ _ _ (hsub _ _ _ _ _ _ _ (by decide +kernel) (by repeat (first | exact trivial | refine ⟨rfl, ?_⟩)) (fun _ h => h.sel (by repeat (first | exact Sel.nil | apply Sel.cons (by repeat (first | exact Del.here | apply Del.there))))) (S4_4 c0 c1 c2 x a4 hc0 hc1 hc2 hx ha4))
    have S3_3 : ∀ (c0 c1 c2 a3 : Value), c0.oneCell' = true → c1.oneCell' = true → c2.oneCell' = true → a3.oneCell' = true → W 5 #[true, true, true, true, true, true, true, true, true, true, true, true, true, true, true, true, true, false, false, true, true, false, false, false] ([(6, c0), (10, c1), (14, c2), (17, a3)] ++ [(5, h.l), (9, h.p), (13, h.d), (16, .int .i64 c), (19, h.n), (23, h.s), (2, .pointer (some ⟨b2, 0, none⟩))]) [own entE 4 c0 118 m.log, own intE 1 c1 3 m.purses, own dealE 5 c2 70 m.deals, own intE 1 a3 3 [], blk b2 62 [.slice none 0 0, .slice none 0 0, .slice none 0 0, .int .i64 0, .slice none 0 0, .slice none 0 0], blk b1 62 (houE h c)] := by
      intro c0 c1 c2 a3 hc0 hc1 hc2 ha3
      apply hto
      refine WH.step [17, 18] (by repeat (first | exact List.nil_sublist _ | exact List.Sublist.refl _ | apply List.Sublist.cons_cons | apply List.Sublist.cons)) (by decide +kernel) (by decide) ?_
      intro j hj
      simp only [List.mem_cons, List.not_mem_nil, or_false] at hj
      rcases hj with rfl | rfl
      · refine ⟨_, rfl, ?_⟩
        refine WL.dCall ?_
        refine WL.apX (us := m.nums) rfl rfl hs3 (by simp; omega) rfl rfl (fun x hx => ?_)
        refine WL.nil ?_
        exact hany _ _ _ _ (hsub _ _ _ _ _ _ _ (by decide +kernel) (by repeat (first | exact trivial | refine ⟨rfl, ?_⟩)) (fun _ h => h.sel (by repeat (first | exact Sel.nil | apply Sel.cons (by repeat (first | exact Del.here | apply Del.there))))) (S4_ c0 c1 c2 x hc0 hc1 hc2 hx))
      · refine ⟨_, rfl, ?_⟩
        refine WL.dOp ?_
        refine WL.lit (E := intE) (ys := []) .nil rfl rfl rfl (fun x hx => ?_)
        refine WL.nil ?_
        exact hany _ _ _ _ (hsub _ _ _ _ _ _ _ (by decide +kernel) (by repeat (first | exact trivial | refine ⟨rfl, ?_⟩)) (fun _ h => h.sel (by repeat (first | exact Sel.nil | apply Sel.cons (by repeat (first | exact Del.here | apply Del.there))))) (S3_34 c0 c1 c2 a3 x hc0 hc1 hc2 ha3 hx))
    have S3_4 : ∀ (c0 c1 c2 a4 : Value), c0.oneCell' = true → c1.oneCell' = true → c2.oneCell' = true → a4.oneCell' = true → W 5 #[true, true, true, true, true, true, true, true, true, true, true, true, true, true, false, true, true, false, true, true, true, false, false, false] ([(6, c0), (10, c1), (14, c2), (21, a4)] ++ [(5, h.l), (9, h.p), (13, h.d), (16, .int .i64 c), (19, h.n), (23, h.s), (2, .pointer (some ⟨b2, 0, none⟩))]) [own entE 4 c0 118 m.log, own intE 1 c1 3 m.purses, own dealE 5 c2 70 m.deals, own intE 1 a4 3 [], blk b2 62 [.slice none 0 0, .slice none 0 0, .slice none 0 0, .int .i64 0, .slice none 0 0, .slice none 0 0], blk b1 62 (houE h c)] := by
      intro c0 c1 c2 a4 hc0 hc1 hc2 ha4
      apply hto
      refine WH.step [14] (by repeat (first | exact List.nil_sublist _ | exact List.Sublist.refl _ | apply List.Sublist.cons_cons | apply List.Sublist.cons)) (by decide +kernel) (by decide) ?_
      intro j hj
      simp only [List.mem_cons, List.not_mem_nil, or_false] at hj
      subst hj
      · refine ⟨_, rfl, ?_⟩
        refine WL.dOp ?_
        refine WL.lit (E := intE) (ys := []) .nil rfl rfl rfl (fun x hx => ?_)
        refine WL.nil ?_
        exact hany _ _ _ _ (hsub _ _ _ _ _ _ _ (by decide +kernel) (by repeat (first | exact trivial | refine ⟨rfl, ?_⟩)) (fun _ h => h.sel (by repeat (first | exact Sel.nil | apply Sel.cons (by repeat (first | exact Del.here | apply Del.there))))) (S3_34 c0 c1 c2 x a4 hc0 hc1 hc2 hx ha4))
    have S3_ : ∀ (c0 c1 c2 : Value), c0.oneCell' = true → c1.oneCell' = true → c2.oneCell' = true → W 6 #[true, true, true, true, true, true, true, true, true, true, true, true, true, true, false, true, true, false, false, true, true, false, false, false] ([(6, c0), (10, c1), (14, c2)] ++ [(5, h.l), (9, h.p), (13, h.d), (16, .int .i64 c), (19, h.n), (23, h.s), (2, .pointer (some ⟨b2, 0, none⟩))]) [own entE 4 c0 118 m.log, own intE 1 c1 3 m.purses, own dealE 5 c2 70 m.deals, blk b2 62 [.slice none 0 0, .slice none 0 0, .slice none 0 0, .int .i64 0, .slice none 0 0, .slice none 0 0], blk b1 62 (houE h c)] := by
      intro c0 c1 c2 hc0 hc1 hc2
      apply hto
      refine WH.step [14, 18] (by repeat (first | exact List.nil_sublist _ | exact List.Sublist.refl _ | apply List.Sublist.cons_cons | apply List.Sublist.cons)) (by decide +kernel) (by decide) ?_
      intro j hj
      simp only [List.mem_cons, List.not_mem_nil, or_false] at hj
      rcases hj with rfl | rfl
      · refine ⟨_, rfl, ?_⟩
        refine WL.dOp ?_
        refine WL.lit (E := intE) (ys := []) .nil rfl rfl rfl (fun x hx => ?_)
        refine WL.nil ?_
        exact hany _ _ _ _ (hsub _ _ _ _ _ _ _ (by decide +kernel) (by repeat (first | exact trivial | refine ⟨rfl, ?_⟩)) (fun _ h => h.sel (by repeat (first | exact Sel.nil | apply Sel.cons (by repeat (first | exact Del.here | apply Del.there))))) (S3_3 c0 c1 c2 x hc0 hc1 hc2 hx))
      · refine ⟨_, rfl, ?_⟩
        refine WL.dOp ?_
        refine WL.lit (E := intE) (ys := []) .nil rfl rfl rfl (fun x hx => ?_)
        refine WL.nil ?_
        exact hany _ _ _ _ (hsub _ _ _ _ _ _ _ (by decide +kernel) (by repeat (first | exact trivial | refine ⟨rfl, ?_⟩)) (fun _ h => h.sel (by repeat (first | exact Sel.nil | apply Sel.cons (by repeat (first | exact Del.here | apply Del.there))))) (S3_4 c0 c1 c2 x hc0 hc1 hc2 hx))
    have S2_234 : ∀ (c0 c1 a2 a3 a4 : Value), c0.oneCell' = true → c1.oneCell' = true → a2.oneCell' = true → a3.oneCell' = true → a4.oneCell' = true → W 5 #[true, true, true, true, true, true, true, true, true, true, true, false, true, true, true, true, true, false, true, true, true, false, false, false] ([(6, c0), (10, c1), (11, a2), (17, a3), (21, a4)] ++ [(5, h.l), (9, h.p), (13, h.d), (16, .int .i64 c), (19, h.n), (23, h.s), (2, .pointer (some ⟨b2, 0, none⟩))]) [own entE 4 c0 118 m.log, own intE 1 c1 3 m.purses, own dealE 5 a2 70 [], own intE 1 a3 3 [], own intE 1 a4 3 [], blk b2 62 [.slice none 0 0, .slice none 0 0, .slice none 0 0, .int .i64 0, .slice none 0 0, .slice none 0 0], blk b1 62 (houE h c)] := by
      intro c0 c1 a2 a3 a4 hc0 hc1 ha2 ha3 ha4
      apply hto
      refine WH.step [11] (by repeat (first | exact List.nil_sublist _ | exact List.Sublist.refl _ | apply List.Sublist.cons_cons | apply List.Sublist.cons)) (by decide +kernel) (by decide) ?_
      intro j hj
      simp only [List.mem_cons, List.not_mem_nil, or_false] at hj
      subst hj
      · refine ⟨_, rfl, ?_⟩
        refine WL.dCall ?_
        refine WL.apX (us := m.deals) rfl rfl hs2 (by simp; omega) rfl rfl (fun x hx => ?_)
        refine WL.nil ?_
        exact hany _ _ _ _ (hsub _ _ _ _ _ _ _ (by decide +kernel) (by repeat (first | exact trivial | refine ⟨rfl, ?_⟩)) (fun _ h => h.sel (by repeat (first | exact Sel.nil | apply Sel.cons (by repeat (first | exact Del.here | apply Del.there))))) (S3_34 c0 c1 x a3 a4 hc0 hc1 hx ha3 ha4))
    have S2_23 : ∀ (c0 c1 a2 a3 : Value), c0.oneCell' = true → c1.oneCell' = true → a2.oneCell' = true → a3.oneCell' = true → W 6 #[true, true, true, true, true, true, true, true, true, true, true, false, true, true, true, true, true, false, false, true, true, false, false, false] ([(6, c0), (10, c1), (11, a2), (17, a3)] ++ [(5, h.l), (9, h.p), (13, h.d), (16, .int .i64 c), (19, h.n), (23, h.s), (2, .pointer (some ⟨b2, 0, none⟩))]) [own entE 4 c0 118 m.log, own intE 1 c1 3 m.purses, own dealE 5 a2 70 [], own intE 1 a3 3 [], blk b2 62 [.slice none 0 0, .slice none 0 0, .slice none 0 0, .int .i64 0, .slice none 0 0, .slice none 0 0], blk b1 62 (houE h c)] := by
      intro c0 c1 a2 a3 hc0 hc1 ha2 ha3
      apply hto
      refine WH.step [11, 18] (by repeat (first | exact List.nil_sublist _ | exact List.Sublist.refl _ | apply List.Sublist.cons_cons | apply List.Sublist.cons)) (by decide +kernel) (by decide) ?_
      intro j hj
      simp only [List.mem_cons, List.not_mem_nil, or_false] at hj
      rcases hj with rfl | rfl
      · refine ⟨_, rfl, ?_⟩
        refine WL.dCall ?_
        refine WL.apX (us := m.deals) rfl rfl hs2 (by simp; omega) rfl rfl (fun x hx => ?_)
        refine WL.nil ?_
        exact hany _ _ _ _ (hsub _ _ _ _ _ _ _ (by decide +kernel) (by repeat (first | exact trivial | refine ⟨rfl, ?_⟩)) (fun _ h => h.sel (by repeat (first | exact Sel.nil | apply Sel.cons (by repeat (first | exact Del.here | apply Del.there))))) (S3_3 c0 c1 x a3 hc0 hc1 hx ha3))
      · refine ⟨_, rfl, ?_⟩
        refine WL.dOp ?_
        refine WL.lit (E := intE) (ys := []) .nil rfl rfl rfl (fun x hx => ?_)
        refine WL.nil ?_
        exact hany _ _ _ _ (hsub _ _ _ _ _ _ _ (by decide +kernel) (by repeat (first | exact trivial | refine ⟨rfl, ?_⟩)) (fun _ h => h.sel (by repeat (first | exact Sel.nil | apply Sel.cons (by repeat (first | exact Del.here | apply Del.there))))) (S2_234 c0 c1 a2 a3 x hc0 hc1 ha2 ha3 hx))
    have S2_24 : ∀ (c0 c1 a2 a4 : Value), c0.oneCell' = true → c1.oneCell' = true → a2.oneCell' = true → a4.oneCell' = true → W 6 #[true, true, true, true, true, true, true, true, true, true, true, false, true, true, false, true, true, false, true, true, true, false, false, false] ([(6, c0), (10, c1), (11, a2), (21, a4)] ++ [(5, h.l), (9, h.p), (13, h.d), (16, .int .i64 c), (19, h.n), (23, h.s), (2, .pointer (some ⟨b2, 0, none⟩))]) [own entE 4 c0 118 m.log, own intE 1 c1 3 m.purses, own dealE 5 a2 70 [], own intE 1 a4 3 [], blk b2 62 [.slice none 0 0, .slice none 0 0, .slice none 0 0, .int .i64 0, .slice none 0 0, .slice none 0 0], blk b1 62 (houE h c)] := by
      intro c0 c1 a2 a4 hc0 hc1 ha2 ha4
      apply hto
      refine WH.step [11, 14] (by repeat (first | exact List.nil_sublist _ | exact List.Sublist.refl _ | apply List.Sublist.cons_cons | apply List.Sublist.cons)) (by decide +kernel) (by decide) ?_
      intro j hj
      simp only [List.mem_cons, List.not_mem_nil, or_false] at hj
      rcases hj with rfl | rfl
      · refine ⟨_, rfl, ?_⟩
        refine WL.dCall ?_
        refine WL.apX (us := m.deals) rfl rfl hs2 (by simp; omega) rfl rfl (fun x hx => ?_)
        refine WL.nil ?_
        exact hany _ _ _ _ (hsub _ _ _ _ _ _ _ (by decide +kernel) (by repeat (first | exact trivial | refine ⟨rfl, ?_⟩)) (fun _ h => h.sel (by repeat (first | exact Sel.nil | apply Sel.cons (by repeat (first | exact Del.here | apply Del.there))))) (S3_4 c0 c1 x a4 hc0 hc1 hx ha4))
      · refine ⟨_, rfl, ?_⟩
        refine WL.dOp ?_
        refine WL.lit (E := intE) (ys := []) .nil rfl rfl rfl (fun x hx => ?_)
        refine WL.nil ?_
        exact hany _ _ _ _ (hsub _ _ _ _ _ _ _ (by decide +kernel) (by repeat (first | exact trivial | refine ⟨rfl, ?_⟩)) (fun _ h => h.sel (by repeat (first | exact Sel.nil | apply Sel.cons (by repeat (first | exact Del.here | apply Del.there))))) (S2_234 c0 c1 a2 x a4 hc0 hc1 ha2 hx ha4))
    have S2_34 : ∀ (c0 c1 a3 a4 : Value), c0.oneCell' = true → c1.oneCell' = true → a3.oneCell' = true → a4.oneCell' = true → W 6 #[true, true, true, true, true, true, true, true, false, true, true, false, true, true, true, true, true, false, true, true, true, false, false, false] ([(6, c0), (10, c1), (17, a3), (21, a4)] ++ [(5, h.l), (9, h.p), (13, h.d), (16, .int .i64 c), (19, h.n), (23, h.s), (2, .pointer (some ⟨b2, 0, none⟩))]) [own entE 4 c0 118 m.log, own intE 1 c1 3 m.purses, own intE 1 a3 3 [], own intE 1 a4 3 [], blk b2 62 [.slice none 0 0, .slice none 0 0, .slice none 0 0, .int .i64 0, .slice none 0 0, .slice none 0 0], blk b1 62 (houE h c)] := by
      intro c0 c1 a3 a4 hc0 hc1 ha3 ha4
      apply hto
      refine WH.step [8] (by repeat (first | exact List.nil_sublist _ | exact List.Sublist.refl _ | apply List.Sublist.cons_cons | apply List.Sublist.cons)) (by decide +kernel) (by decide) ?_
      intro j hj
      simp only [List.mem_cons, List.not_mem_nil, or_false] at hj
      subst hj
      · refine ⟨_, rfl, ?_⟩
        refine WL.dOp ?_
        refine WL.lit (E := dealE) (ys := []) .nil rfl rfl rfl (fun x hx => ?_)
        refine WL.nil ?_
        exact hany _ _ _ _ (hsub _ _ _ _ _ _ _ (by decide +kernel) (by repeat (first | exact trivial | refine ⟨rfl, ?_⟩)) (fun _ h => h.sel (by repeat (first | exact Sel.nil | apply Sel.cons (by repeat (first | exact Del.here | apply Del.there))))) (S2_234 c0 c1 x a3 a4 hc0 hc1 hx ha3 ha4))
    have S2_2 : ∀ (c0 c1 a2 : Value), c0.oneCell' = true → c1.oneCell' = true → a2.oneCell' = true → W 7 #[true, true, true, true, true, true, true, true, true, true, true, false, true, true, false, true, true, false, false, true, true, false, false, false] ([(6, c0), (10, c1), (11, a2)] ++ [(5, h.l), (9, h.p), (13, h.d), (16, .int .i64 c), (19, h.n), (23, h.s), (2, .pointer (some ⟨b2, 0, none⟩))]) [own entE 4 c0 118 m.log, own intE 1 c1 3 m.purses, own dealE 5 a2 70 [], blk b2 62 [.slice none 0 0, .slice none 0 0, .slice none 0 0, .int .i64 0, .slice none 0 0, .slice none 0 0], blk b1 62 (houE h c)] := by
      intro c0 c1 a2 hc0 hc1 ha2
      apply hto
      refine WH.step [11, 14, 18] (by repeat (first | exact List.nil_sublist _ | exact List.Sublist.refl _ | apply List.Sublist.cons_cons | apply List.Sublist.cons)) (by decide +kernel) (by decide) ?_
      intro j hj
      simp only [List.mem_cons, List.not_mem_nil, or_false] at hj
      rcases hj with rfl | rfl | rfl
      · refine ⟨_, rfl, ?_⟩
        refine WL.dCall ?_
        refine WL.apX (us := m.deals) rfl rfl hs2 (by simp; omega) rfl rfl (fun x hx => ?_)
        refine WL.nil ?_
        exact hany _ _ _ _ (hsub _ _ _ _ _ _ _ (by decide +kernel) (by repeat (first | exact trivial | refine ⟨rfl, ?_⟩)) (fun _ h => h.sel (by repeat (first | exact Sel.nil | apply Sel.cons (by repeat (first | exact Del.here | apply Del.there))))) (S3_ c0 c1 x hc0 hc1 hx))
      · refine ⟨_, rfl, ?_⟩
        refine WL.dOp ?_
        refine WL.lit (E := intE) (ys := []) .nil rfl rfl rfl (fun x hx => ?_)
        refine WL.nil ?_
        exact hany _ _ _ _ (hsub _ _ _ _ _ _ _ (by decide +kernel) (by repeat (first | exact trivial | refine ⟨rfl, ?_⟩)) (fun _ h => h.sel (by repeat (first | exact Sel.nil | apply Sel.cons (by repeat (first | exact Del.here | apply Del.there))))) (S2_23 c0 c1 a2 x hc0 hc1 ha2 hx))
      · refine ⟨_, rfl, ?_⟩
        refine WL.dOp ?_
        refine WL.lit (E := intE) (ys := []) .nil rfl rfl rfl (fun x hx => ?_)
        refine WL.nil ?_
        exact hany _ _ _ _ (hsub _ _ _ _ _ _ _ (by decide +kernel) (by repeat (first | exact trivial | refine ⟨rfl, ?_⟩)) (fun _ h => h.sel (by repeat (first | exact Sel.nil | apply Sel.cons (by repeat (first | exact Del.here | apply Del.there))))) (S2_24 c0 c1 a2 x hc0 hc1 ha2 hx))
    have S2_3 : ∀ (c0 c1 a3 : Value), c0.oneCell' = true → c1.oneCell' = true → a3.oneCell' = true → W 7 #[true, true, true, true, true, true, true, true, false, true, true, false, true, true, true, true, true, false, false, true, true, false, false, false] ([(6, c0), (10, c1), (17, a3)] ++ [(5, h.l), (9, h.p), (13, h.d), (16, .int .i64 c), (19, h.n), (23, h.s), (2, .pointer (some ⟨b2, 0, none⟩))]) [own entE 4 c0 118 m.log, own intE 1 c1 3 m.purses, own intE 1 a3 3 [], blk b2 62 [.slice none 0 0, .slice none 0 0, .slice none 0 0, .int .i64 0, .slice none 0 0, .slice none 0 0], blk b1 62 (houE h c)] := by
      intro c0 c1 a3 hc0 hc1 ha3
      apply hto
      refine WH.step [8, 18] (by repeat (first | exact List.nil_sublist _ | exact List.Sublist.refl _ | apply List.Sublist.cons_cons | apply List.Sublist.cons)) (by decide +kernel) (by decide) ?_
      intro j hj
      simp only [List.mem_cons, List.not_mem_nil, or_false] at hj
      rcases hj with rfl | rfl
      · refine ⟨_, rfl, ?_⟩
        refine WL.dOp ?_
        refine WL.lit (E := dealE) (ys := []) .nil rfl rfl rfl (fun x hx => ?_)
        refine WL.nil ?_
        exact hany _ _ _ _ (hsub _ _ _ _ _ _ _ (by decide +kernel) (by repeat (first | exact trivial | refine ⟨rfl, ?_⟩)) (fun _ h => h.sel (by repeat (first | exact Sel.nil | apply Sel.cons (by repeat (first | exact Del.here | apply Del.there))))) (S2_23 c0 c1 x a3 hc0 hc1 hx ha3))
      · refine ⟨_, rfl, ?_⟩
        refine WL.dOp ?_
        refine WL.lit (E := intE) (ys := []) .nil rfl rfl rfl (fun x hx => ?_)
        refine WL.nil ?_
        exact hany _ _ _ _ (hsub _ _ _ _ _ _ _ (by decide +kernel) (by repeat (first | exact trivial | refine ⟨rfl, ?_⟩)) (fun _ h => h.sel (by repeat (first | exact Sel.nil | apply Sel.cons (by repeat (first | exact Del.here | apply Del.there))))) (S2_34 c0 c1 a3 x hc0 hc1 ha3 hx))
    have S2_4 : ∀ (c0 c1 a4 : Value), c0.oneCell' = true → c1.oneCell' = true → a4.oneCell' = true → W 7 #[true, true, true, true, true, true, true, true, false, true, true, false, true, true, false, true, true, false, true, true, true, false, false, false] ([(6, c0), (10, c1), (21, a4)] ++ [(5, h.l), (9, h.p), (13, h.d), (16, .int .i64 c), (19, h.n), (23, h.s), (2, .pointer (some ⟨b2, 0, none⟩))]) [own entE 4 c0 118 m.log, own intE 1 c1 3 m.purses, own intE 1 a4 3 [], blk b2 62 [.slice none 0 0, .slice none 0 0, .slice none 0 0, .int .i64 0, .slice none 0 0, .slice none 0 0], blk b1 62 (houE h c)] := by
      intro c0 c1 a4 hc0 hc1 ha4
      apply hto
      refine WH.step [8, 14] (by repeat (first | exact List.nil_sublist _ | exact List.Sublist.refl _ | apply List.Sublist.cons_cons | apply List.Sublist.cons)) (by decide +kernel) (by decide) ?_
      intro j hj
      simp only [List.mem_cons, List.not_mem_nil, or_false] at hj
      rcases hj with rfl | rfl
      · refine ⟨_, rfl, ?_⟩
        refine WL.dOp ?_
        refine WL.lit (E := dealE) (ys := []) .nil rfl rfl rfl (fun x hx => ?_)
        refine WL.nil ?_
        exact hany _ _ _ _ (hsub _ _ _ _ _ _ _ (by decide +kernel) (by repeat (first | exact trivial | refine ⟨rfl, ?_⟩)) (fun _ h => h.sel (by repeat (first | exact Sel.nil | apply Sel.cons (by repeat (first | exact Del.here | apply Del.there))))) (S2_24 c0 c1 x a4 hc0 hc1 hx ha4))
      · refine ⟨_, rfl, ?_⟩
        refine WL.dOp ?_
        refine WL.lit (E := intE) (ys := []) .nil rfl rfl rfl (fun x hx => ?_)
        refine WL.nil ?_
        exact hany _ _ _ _ (hsub _ _ _ _ _ _ _ (by decide +kernel) (by repeat (first | exact trivial | refine ⟨rfl, ?_⟩)) (fun _ h => h.sel (by repeat (first | exact Sel.nil | apply Sel.cons (by repeat (first | exact Del.here | apply Del.there))))) (S2_34 c0 c1 x a4 hc0 hc1 hx ha4))
    have S2_ : ∀ (c0 c1 : Value), c0.oneCell' = true → c1.oneCell' = true → W 8 #[true, true, true, true, true, true, true, true, false, true, true, false, true, true, false, true, true, false, false, true, true, false, false, false] ([(6, c0), (10, c1)] ++ [(5, h.l), (9, h.p), (13, h.d), (16, .int .i64 c), (19, h.n), (23, h.s), (2, .pointer (some ⟨b2, 0, none⟩))]) [own entE 4 c0 118 m.log, own intE 1 c1 3 m.purses, blk b2 62 [.slice none 0 0, .slice none 0 0, .slice none 0 0, .int .i64 0, .slice none 0 0, .slice none 0 0], blk b1 62 (houE h c)] := by
      intro c0 c1 hc0 hc1
      apply hto
      refine WH.step [8, 14, 18] (by repeat (first | exact List.nil_sublist _ | exact List.Sublist.refl _ | apply List.Sublist.cons_cons | apply List.Sublist.cons)) (by decide +kernel) (by decide) ?_
      intro j hj
      simp only [List.mem_cons, List.not_mem_nil, or_false] at hj
      rcases hj with rfl | rfl | rfl
      · refine ⟨_, rfl, ?_⟩
        refine WL.dOp ?_
        refine WL.lit (E := dealE) (ys := []) .nil rfl rfl rfl (fun x hx => ?_)
        refine WL.nil ?_
        exact hany _ _ _ _ (hsub _ _ _ _ _ _ _ (by decide +kernel) (by repeat (first | exact trivial | refine ⟨rfl, ?_⟩)) (fun _ h => h.sel (by repeat (first | exact Sel.nil | apply Sel.cons (by repeat (first | exact Del.here | apply Del.there))))) (S2_2 c0 c1 x hc0 hc1 hx))
      · refine ⟨_, rfl, ?_⟩
        refine WL.dOp ?_
        refine WL.lit (E := intE) (ys := []) .nil rfl rfl rfl (fun x hx => ?_)
        refine WL.nil ?_
        exact hany _ _ _ _ (hsub _ _ _ _ _ _ _ (by decide +kernel) (by repeat (first | exact trivial | refine ⟨rfl, ?_⟩)) (fun _ h => h.sel (by repeat (first | exact Sel.nil | apply Sel.cons (by repeat (first | exact Del.here | apply Del.there))))) (S2_3 c0 c1 x hc0 hc1 hx))
      · refine ⟨_, rfl, ?_⟩
        refine WL.dOp ?_
        refine WL.lit (E := intE) (ys := []) .nil rfl rfl rfl (fun x hx => ?_)
        refine WL.nil ?_
        exact hany _ _ _ _ (hsub _ _ _ _ _ _ _ (by decide +kernel) (by repeat (first | exact trivial | refine ⟨rfl, ?_⟩)) (fun _ h => h.sel (by repeat (first | exact Sel.nil | apply Sel.cons (by repeat (first | exact Del.here | apply Del.there))))) (S2_4 c0 c1 x hc0 hc1 hx))
    have S1_1234 : ∀ (c0 a1 a2 a3 a4 : Value), c0.oneCell' = true → a1.oneCell' = true → a2.oneCell' = true → a3.oneCell' = true → a4.oneCell' = true → W 6 #[true, true, true, true, true, true, true, false, true, true, true, false, true, true, true, true, true, false, true, true, true, false, false, false] ([(6, c0), (7, a1), (11, a2), (17, a3), (21, a4)] ++ [(5, h.l), (9, h.p), (13, h.d), (16, .int .i64 c), (19, h.n), (23, h.s), (2, .pointer (some ⟨b2, 0, none⟩))]) [own entE 4 c0 118 m.log, own intE 1 a1 3 [], own dealE 5 a2 70 [], own intE 1 a3 3 [], own intE 1 a4 3 [], blk b2 62 [.slice none 0 0, .slice none 0 0, .slice none 0 0, .int .i64 0, .slice none 0 0, .slice none 0 0], blk b1 62 (houE h c)] := by
      intro c0 a1 a2 a3 a4 hc0 ha1 ha2 ha3 ha4
      apply hto
      refine WH.step [7] (by repeat (first | exact List.nil_sublist _ | exact List.Sublist.refl _ | apply List.Sublist.cons_cons | apply List.Sublist.cons)) (by decide +kernel) (by decide) ?_
      intro j hj
      simp only [List.mem_cons, List.not_mem_nil, or_false] at hj
      subst hj
      · refine ⟨_, rfl, ?_⟩
        refine WL.dCall ?_
        refine WL.apX (us := m.purses) rfl rfl hs1 (by simp; omega) rfl rfl (fun x hx => ?_)
        refine WL.nil ?_
        exact hany _ _ _ _ (hsub _ _ _ _ _ _ _ (by decide +kernel) (by repeat (first | exact trivial | refine ⟨rfl, ?_⟩)) (fun _ h => h.sel (by repeat (first | exact Sel.nil | apply Sel.cons (by repeat (first | exact Del.here | apply Del.there))))) (S2_234 c0 x a2 a3 a4 hc0 hx ha2 ha3 ha4))
    have S1_123 : ∀ (c0 a1 a2 a3 : Value), c0.oneCell' = true → a1.oneCell' = true → a2.oneCell' = true → a3.oneCell' = true → W 7 #[true, true, true, true, true, true, true, false, true, true, true, false, true, true, true, true, true, false, false, true, true, false, false, false] ([(6, c0), (7, a1), (11, a2), (17, a3)] ++ [(5, h.l), (9, h.p), (13, h.d), (16, .int .i64 c), (19, h.n), (23, h.s), (2, .pointer (some ⟨b2, 0, none⟩))]) [own entE 4 c0 118 m.log, own intE 1 a1 3 [], own dealE 5 a2 70 [], own intE 1 a3 3 [], blk b2 62 [.slice none 0 0, .slice none 0 0, .slice none 0 0, .int .i64 0, .slice none 0 0, .slice none 0 0], blk b1 62 (houE h c)] := by
      intro c0 a1 a2 a3 hc0 ha1 ha2 ha3
      apply hto
      refine WH.step [7, 18] (by repeat (first | exact List.nil_sublist _ | exact List.Sublist.refl _ | apply List.Sublist.cons_cons | apply List.Sublist.cons)) (by decide +kernel) (by decide) ?_
      intro j hj
      simp only [List.mem_cons, List.not_mem_nil, or_false] at hj
      rcases hj with rfl | rfl
      · refine ⟨_, rfl, ?_⟩
        refine WL.dCall ?_
        refine WL.apX (us := m.purses) rfl rfl hs1 (by simp; omega) rfl rfl (fun x hx => ?_)
        refine WL.nil ?_
        exact hany _ _ _ _ (hsub _ _ _ _ _ _ _ (by decide +kernel) (by repeat (first | exact trivial | refine ⟨rfl, ?_⟩)) (fun _ h => h.sel (by repeat (first | exact Sel.nil | apply Sel.cons (by repeat (first | exact Del.here | apply Del.there))))) (S2_23 c0 x a2 a3 hc0 hx ha2 ha3))
      · refine ⟨_, rfl, ?_⟩
        refine WL.dOp ?_
        refine WL.lit (E := intE) (ys := []) .nil rfl rfl rfl (fun x hx => ?_)
        refine WL.nil ?_
        exact hany _ _ _ _ (hsub _ _ _ _ _ _ _ (by decide +kernel) (by repeat (first | exact trivial | refine ⟨rfl, ?_⟩)) (fun _ h => h.sel (by repeat (first | exact Sel.nil | apply Sel.cons (by repeat (first | exact Del.here | apply Del.there))))) (S1_1234 c0 a1 a2 a3 x hc0 ha1 ha2 ha3 hx))
    have S1_124 : ∀ (c0 a1 a2 a4 : Value), c0.oneCell' = true → a1.oneCell' = true → a2.oneCell' = true → a4.oneCell' = true → W 7 #[true, true, true, true, true, true, true, false, true, true, true, false, true, true, false, true, true, false, true, true, true, false, false, false] ([(6, c0), (7, a1), (11, a2), (21, a4)] ++ [(5, h.l), (9, h.p), (13, h.d), (16, .int .i64 c), (19, h.n), (23, h.s), (2, .pointer (some ⟨b2, 0, none⟩))]) [own entE 4 c0 118 m.log, own intE 1 a1 3 [], own dealE 5 a2 70 [], own intE 1 a4 3 [], blk b2 62 [.slice none 0 0, .slice none 0 0, .slice none 0 0, .int .i64 0, .slice none 0 0, .slice none 0 0], blk b1 62 (houE h c)] := by
      intro c0 a1 a2 a4 hc0 ha1 ha2 ha4
      apply hto
      refine WH.step [7, 14] (by repeat (first | exact List.nil_sublist _ | exact List.Sublist.refl _ | apply List.Sublist.cons_cons | apply List.Sublist.cons)) (by decide +kernel) (by decide) ?_
      intro j hj
      simp only [List.mem_cons, List.not_mem_nil, or_false] at hj
      rcases hj with rfl | rfl
      · refine ⟨_, rfl, ?_⟩
        refine WL.dCall ?_
        refine WL.apX (us := m.purses) rfl rfl hs1 (by simp; omega) rfl rfl (fun x hx => ?_)
        refine WL.nil ?_
        exact hany _ _ _ _ (hsub _ _ _ _ _ _ _ (by decide +kernel) (by repeat (first | exact trivial | refine ⟨rfl, ?_⟩)) (fun _ h => h.sel (by repeat (first | exact Sel.nil | apply Sel.cons (by repeat (first | exact Del.here | apply Del.there))))) (S2_24 c0 x a2 a4 hc0 hx ha2 ha4))
      · refine ⟨_, rfl, ?_⟩
        refine WL.dOp ?_
        refine WL.lit (E := intE) (ys := []) .nil rfl rfl rfl (fun x hx => ?_)
        refine WL.nil ?_
        exact hany _ _ _ _ (hsub _ _ _ _ _ _ _ (by decide +kernel) (by repeat (first | exact trivial | refine ⟨rfl, ?_⟩)) (fun _ h => h.sel (by repeat (first | exact Sel.nil | apply Sel.cons (by repeat (first | exact Del.here | apply Del.there))))) (S1_1234 c0 a1 a2 x a4 hc0 ha1 ha2 hx ha4))
    have S1_134 : ∀ (c0 a1 a3 a4 : Value), c0.oneCell' = true → a1.oneCell' = true → a3.oneCell' = true → a4.oneCell' = true → W 7 #[true, true, true, true, true, true, true, false, false, true, true, false, true, true, true, true, true, false, true, true, true, false, false, false] ([(6, c0), (7, a1), (17, a3), (21, a4)] ++ [(5, h.l), (9, h.p), (13, h.d), (16, .int .i64 c), (19, h.n), (23, h.s), (2, .pointer (some ⟨b2, 0, none⟩))]) [own entE 4 c0 118 m.log, own intE 1 a1 3 [], own intE 1 a3 3 [], own intE 1 a4 3 [], blk b2 62 [.slice none 0 0, .slice none 0 0, .slice none 0 0, .int .i64 0, .slice none 0 0, .slice none 0 0], blk b1 62 (houE h c)] := by
      intro c0 a1 a3 a4 hc0 ha1 ha3 ha4
      apply hto
      refine WH.step [7, 8] (by repeat (first | exact List.nil_sublist _ | exact List.Sublist.refl _ | apply List.Sublist.cons_cons | apply List.Sublist.cons)) (by decide +kernel) (by decide) ?_
      intro j hj
      simp only [List.mem_cons, List.not_mem_nil, or_false] at hj
      rcases hj with rfl | rfl
      · refine ⟨_, rfl, ?_⟩
        refine WL.dCall ?_
        refine WL.apX (us := m.purses) rfl rfl hs1 (by simp; omega) rfl rfl (fun x hx => ?_)
        refine WL.nil ?_
        exact hany _ _ _ _ (hsub _ _ _ _ _ _ _ (by decide +kernel) (by repeat (first | exact trivial | refine ⟨rfl, ?_⟩)) (fun _ h => h.sel (by repeat (first | exact Sel.nil | apply Sel.cons (by repeat (first | exact Del.here | apply Del.there))))) (S2_34 c0 x a3 a4 hc0 hx ha3 ha4))
      · refine ⟨_, rfl, ?_⟩
        refine WL.dOp ?_
        refine WL.lit (E := dealE) (ys := []) .nil rfl rfl rfl (fun x hx => ?_)
        refine WL.nil ?_
        exact hany _ _ _ _ (hsub _ _ _ _ _ _ _ (by decide +kernel) (by repeat (first | exact trivial | refine ⟨rfl, ?_⟩)) (fun _ h => h.sel (by repeat (first | exact Sel.nil | apply Sel.cons (by repeat (first | exact Del.here | apply Del.there))))) (S1_1234 c0 a1 x a3 a4 hc0 ha1 hx ha3 ha4))
    have S1_234 : ∀ (c0 a2 a3 a4 : Value), c0.oneCell' = true → a2.oneCell' = true → a3.oneCell' = true → a4.oneCell' = true → W 7 #[true, true, true, true, false, true, true, false, true, true, true, false, true, true, true, true, true, false, true, true, true, false, false, false] ([(6, c0), (11, a2), (17, a3), (21, a4)] ++ [(5, h.l), (9, h.p), (13, h.d), (16, .int .i64 c), (19, h.n), (23, h.s), (2, .pointer (some ⟨b2, 0, none⟩))]) [own entE 4 c0 118 m.log, own dealE 5 a2 70 [], own intE 1 a3 3 [], own intE 1 a4 3 [], blk b2 62 [.slice none 0 0, .slice none 0 0, .slice none 0 0, .int .i64 0, .slice none 0 0, .slice none 0 0], blk b1 62 (houE h c)] := by
      intro c0 a2 a3 a4 hc0 ha2 ha3 ha4
      apply hto
      refine WH.step [4] (by repeat (first | exact List.nil_sublist _ | exact List.Sublist.refl _ | apply List.Sublist.cons_cons | apply List.Sublist.cons)) (by decide +kernel) (by decide) ?_
      intro j hj
      simp only [List.mem_cons, List.not_mem_nil, or_false] at hj
      subst hj
      · refine ⟨_, rfl, ?_⟩
        refine WL.dOp ?_
        refine WL.lit (E := intE) (ys := []) .nil rfl rfl rfl (fun x hx => ?_)
        refine WL.nil ?_
        exact hany _ _ _ _ (hsub _ _ _ _ _ _ _ (by decide +kernel) (by repeat (first | exact trivial | refine ⟨rfl, ?_⟩)) (fun _ h => h.sel (by repeat (first | exact Sel.nil | apply Sel.cons (by repeat (first | exact Del.here | apply Del.there))))) (S1_1234 c0 x a2 a3 a4 hc0 hx ha2 ha3 ha4))
    have S1_12 : ∀ (c0 a1 a2 : Value), c0.oneCell' = true → a1.oneCell' = true → a2.oneCell' = true → W 8 #[true, true, true, true, true, true, true, false, true, true, true, false, true, true, false, true, true, false, false, true, true, false, false, false] ([(6, c0), (7, a1), (11, a2)] ++ [(5, h.l), (9, h.p), (13, h.d), (16, .int .i64 c), (19, h.n), (23, h.s), (2, .pointer (some ⟨b2, 0, none⟩))]) [own entE 4 c0 118 m.log, own intE 1 a1 3 [], own dealE 5 a2 70 [], blk b2 62 [.slice none 0 0, .slice none 0 0, .slice none 0 0, .int .i64 0, .slice none 0 0, .slice none 0 0], blk b1 62 (houE h c)] := by
      intro c0 a1 a2 hc0 ha1 ha2
      apply hto
      refine WH.step [7, 14, 18] (by repeat (first | exact List.nil_sublist _ | exact List.Sublist.refl _ | apply List.Sublist.cons_cons | apply List.Sublist.cons)) (by decide +kernel) (by decide) ?_
      intro j hj
      simp only [List.mem_cons, List.not_mem_nil, or_false] at hj
      rcases hj with rfl | rfl | rfl
      · refine ⟨_, rfl, ?_⟩
        refine WL.dCall ?_
        refine WL.apX (us := m.purses) rfl rfl hs1 (by simp; omega) rfl rfl (fun x hx => ?_)
        refine WL.nil ?_
        exact hany _ _ _ _ (hsub _ _ _ _ _ _ _ (by decide +kernel) (by repeat (first | exact trivial | refine ⟨rfl, ?_⟩)) (fun _ h => h.sel (by repeat (first | exact Sel.nil | apply Sel.cons (by repeat (first | exact Del.here | apply Del.there))))) (S2_2 c0 x a2 hc0 hx ha2))
      · refine ⟨_, rfl, ?_⟩
        refine WL.dOp ?_
        refine WL.lit (E := intE) (ys := []) .nil rfl rfl rfl (fun x hx => ?_)
        refine WL.nil ?_
        exact hany _ _ _ _ (hsub _ _ _ _ _ _ _ (by decide +kernel) (by repeat (first | exact trivial | refine ⟨rfl, ?_⟩)) (fun _ h => h.sel (by repeat (first | exact Sel.nil | apply Sel.cons (by repeat (first | exact Del.here | apply Del.there))))) (S1_123 c0 a1 a2 x hc0 ha1 ha2 hx))
      · refine ⟨_, rfl, ?_⟩
        refine WL.dOp ?_
        refine WL.lit (E := intE) (ys := []) .nil rfl rfl rfl (fun x hx => ?_)
        refine WL.nil ?_
        exact hany _ _ _ _ (hsub _ _ _ _ _ _ _ (by decide +kernel) (by repeat (first | exact trivial | refine ⟨rfl, ?_⟩)) (fun _ h => h.sel (by repeat (first | exact Sel.nil | apply Sel.cons (by repeat (first | exact Del.here | apply Del.there))))) (S1_124 c0 a1 a2 x hc0 ha1 ha2 hx))
    have S1_13 : ∀ (c0 a1 a3 : Value), c0.oneCell' = true → a1.oneCell' = true → a3.oneCell' = true → W 8 #[true, true, true, true, true, true, true, false, false, true, true, false, true, true, true, true, true, false, false, true, true, false, false, false] ([(6, c0), (7, a1), (17, a3)] ++ [(5, h.l), (9, h.p), (13, h.d), (16, .int .i64 c), (19, h.n), (23, h.s), (2, .pointer (some ⟨b2, 0, none⟩))]) [own entE 4 c0 118 m.log, own intE 1 a1 3 [], own intE 1 a3 3 [], blk b2 62 [.slice none 0 0, .slice none 0 0, .slice none 0 0, .int .i64 0, .slice none 0 0, .slice none 0 0], blk b1 62 (houE h c)] := by
      intro c0 a1 a3 hc0 ha1 ha3
      apply hto
      refine WH.step [7, 8, 18] (by repeat (first | exact List.nil_sublist _ | exact List.Sublist.refl _ | apply List.Sublist.cons_cons | apply List.Sublist.cons)) (by decide +kernel) (by decide) ?_
      intro j hj
      simp only [List.mem_cons, List.not_mem_nil, or_false] at hj
      rcases hj with rfl | rfl | rfl
      · refine ⟨_, rfl, ?_⟩
        refine WL.dCall ?_
        refine WL.apX (us := m.purses) rfl rfl hs1 (by simp; omega) rfl rfl (fun x hx => ?_)
        refine WL.nil ?_
        exact hany _ _ _ _ (hsub _ _ _ _ _ _ _ (by decide +kernel) (by repeat (first | exact trivial | refine ⟨rfl, ?_⟩)) (fun _ h => h.sel (by repeat (first | exact Sel.nil | apply Sel.cons (by repeat (first | exact Del.here | apply Del.there))))) (S2_3 c0 x a3 hc0 hx ha3))
      · refine ⟨_, rfl, ?_⟩
        refine WL.dOp ?_
        refine WL.lit (E := dealE) (ys := []) .nil rfl rfl rfl (fun x hx => ?_)
        refine WL.nil ?_
        exact hany _ _ _ _ (hsub _ _ _ _ _ _ _ (by decide +kernel) (by repeat (first | exact trivial | refine ⟨rfl, ?_⟩)) (fun _ h => h.sel (by repeat (first | exact Sel.nil | apply Sel.cons (by repeat (first | exact Del.here | apply Del.there))))) (S1_123 c0 a1 x a3 hc0 ha1 hx ha3))
      · refine ⟨_, rfl, ?_⟩
        refine WL.dOp ?_
        refine WL.lit (E := intE) (ys := []) .nil rfl rfl rfl (fun x hx => ?_)
        refine WL.nil ?_
        exact hany _ _ _ _ (hsub _ _ _ _ _ _ _ (by decide +kernel) (by repeat (first | exact trivial | refine ⟨rfl, ?_⟩)) (fun _ h => h.sel (by repeat (first | exact Sel.nil | apply Sel.cons (by repeat (first | exact Del.here | apply Del.there))))) (S1_134 c0 a1 a3 x hc0 ha1 ha3 hx))
    have S1_14 : ∀ (c0 a1 a4 : Value), c0.oneCell' = true → a1.oneCell' = true → a4.oneCell' = true → W 8 #[true, true, true, true, true, true, true, false, false, true, true, false, true, true, false, true, true, false, true, true, true, false, false, false] ([(6, c0), (7, a1), (21, a4)] ++ [(5, h.l), (9, h.p), (13, h.d), (16, .int .i64 c), (19, h.n), (23, h.s), (2, .pointer (some ⟨b2, 0, none⟩))]) [own entE 4 c0 118 m.log, own intE 1 a1 3 [], own intE 1 a4 3 [], blk b2 62 [.slice none 0 0, .slice none 0 0, .slice none 0 0, .int .i64 0, .slice none 0 0, .slice none 0 0], blk b1 62 (houE h c)] := by
      intro c0 a1 a4 hc0 ha1 ha4
      apply hto
      refine WH.step [7, 8, 14] (by repeat (first | exact List.nil_sublist _ | exact List.Sublist.refl _ | apply List.Sublist.cons_cons | apply List.Sublist.cons)) (by decide +kernel) (by decide) ?_
      intro j hj
      simp only [List.mem_cons, List.not_mem_nil, or_false] at hj
      rcases hj with rfl | rfl | rfl
      · refine ⟨_, rfl, ?_⟩
        refine WL.dCall ?_
        refine WL.apX (us := m.purses) rfl rfl hs1 (by simp; omega) rfl rfl (fun x hx => ?_)
        refine WL.nil ?_
        exact hany _ _ _ _ (hsub _ _ _ _ _ _ _ (by decide +kernel) (by repeat (first | exact trivial | refine ⟨rfl, ?_⟩)) (fun _ h => h.sel (by repeat (first | exact Sel.nil | apply Sel.cons (by repeat (first | exact Del.here | apply Del.there))))) (S2_4 c0 x a4 hc0 hx ha4))
      · refine ⟨_, rfl, ?_⟩
        refine WL.dOp ?_
        refine WL.lit (E := dealE) (ys := []) .nil rfl rfl rfl (fun x hx => ?_)
        refine WL.nil ?_
        exact hany _ _ _ _ (hsub _ _ _ _ _ _ _ (by decide +kernel) (by repeat (first | exact trivial | refine ⟨rfl, ?_⟩)) (fun _ h => h.sel (by repeat (first | exact Sel.nil | apply Sel.cons (by repeat (first | exact Del.here | apply Del.there))))) (S1_124 c0 a1 x a4 hc0 ha1 hx ha4))
      · refine ⟨_, rfl, ?_⟩
        refine WL.dOp ?_
        refine WL.lit (E := intE) (ys := []) .nil rfl rfl rfl (fun x hx => ?_)
        refine WL.nil ?_
        exact hany _ _ _ _ (hsub _ _ _ _ _ _ _ (by decide +kernel) (by repeat (first | exact trivial | refine ⟨rfl, ?_⟩)) (fun _ h => h.sel (by repeat (first | exact Sel.nil | apply Sel.cons (by repeat (first | exact Del.here | apply Del.there))))) (S1_134 c0 a1 x a4 hc0 ha1 hx ha4))
    have S1_23 : ∀ (c0 a2 a3 : Value), c0.oneCell' = true → a2.oneCell' = true → a3.oneCell' = true → W 8 #[true, true, true, true, false, true, true, false, true, true, true, false, true, true, true, true, true, false, false, true, true, false, false, false] ([(6, c0), (11, a2), (17, a3)] ++ [(5, h.l), (9, h.p), (13, h.d), (16, .int .i64 c), (19, h.n), (23, h.s), (2, .pointer (some ⟨b2, 0, none⟩))]) [own entE 4 c0 118 m.log, own dealE 5 a2 70 [], own intE 1 a3 3 [], blk b2 62 [.slice none 0 0, .slice none 0 0, .slice none 0 0, .int .i64 0, .slice none 0 0, .slice none 0 0], blk b1 62 (houE h c)] := by
      intro c0 a2 a3 hc0 ha2 ha3
      apply hto
      refine WH.step [4, 18] (by repeat (first | exact List.nil_sublist _ | exact List.Sublist.refl _ | apply List.Sublist.cons_cons | apply List.Sublist.cons)) (by decide +kernel) (by decide) ?_
      intro j hj
      simp only [List.mem_cons, List.not_mem_nil, or_false] at hj
      rcases hj with rfl | rfl
      · refine ⟨_, rfl, ?_⟩
        refine WL.dOp ?_
        refine WL.lit (E := intE) (ys := []) .nil rfl rfl rfl (fun x hx => ?_)
        refine WL.nil ?_
        exact hany _ _ _ _ (hsub _ _ _ _ _ _ _ (by decide +kernel) (by repeat (first | exact trivial | refine ⟨rfl, ?_⟩)) (fun _ h => h.sel (by repeat (first | exact Sel.nil | apply Sel.cons (by repeat (first | exact Del.here | apply Del.there))))) (S1_123 c0 x a2 a3 hc0 hx ha2 ha3))
      · refine ⟨_, rfl, ?_⟩
        refine WL.dOp ?_
        refine WL.lit (E := intE) (ys := []) .nil rfl rfl rfl (fun x hx => ?_)
        refine WL.nil ?_
        exact hany _ _ _ _ (hsub _ _ _ _ _ _ _ (by decide +kernel) (by repeat (first | exact trivial | refine ⟨rfl, ?_⟩)) (fun _ h => h.sel (by repeat (first | exact Sel.nil | apply Sel.cons (by repeat (first | exact Del.here | apply Del.there))))) (S1_234 c0 a2 a3 x hc0 ha2 ha3 hx))
    have S1_24 : ∀ (c0 a2 a4 : Value), c0.oneCell' = true → a2.oneCell' = true → a4.oneCell' = true → W 8 #[true, true, true, true, false, true, true, false, true, true, true, false, true, true, false, true, true, false, true, true, true, false, false, false] ([(6, c0), (11, a2), (21, a4)] ++ [(5, h.l), (9, h.p), (13, h.d), (16, .int .i64 c), (19, h.n), (23, h.s), (2, .pointer (some ⟨b2, 0, none⟩))]) [own entE 4 c0 118 m.log, own dealE 5 a2 70 [], own intE 1 a4 3 [], blk b2 62 [.slice none 0 0, .slice none 0 0, .slice none 0 0, .int .i64 0, .slice none 0 0, .slice none 0 0], blk b1 62 (houE h c)] := by
      intro c0 a2 a4 hc0 ha2 ha4
      apply hto
      refine WH.step [4, 14] (by repeat (first | exact List.nil_sublist _ | exact List.Sublist.refl _ | apply List.Sublist.cons_cons | apply List.Sublist.cons)) (by decide +kernel) (by decide) ?_
      intro j hj
      simp only [List.mem_cons, List.not_mem_nil, or_false] at hj
      rcases hj with rfl | rfl
      · refine ⟨_, rfl, ?_⟩
        refine WL.dOp ?_
        refine WL.lit (E := intE) (ys := []) .nil rfl rfl rfl (fun x hx => ?_)
        refine WL.nil ?_
        exact hany _ _ _ _ (hsub _ _ _ _ _ _ _ (by decide +kernel) (by repeat (first | exact trivial | refine ⟨rfl, ?_⟩)) (fun _ h => h.sel (by repeat (first | exact Sel.nil | apply Sel.cons (by repeat (first | exact Del.here | apply Del.there))))) (S1_124 c0 x a2 a4 hc0 hx ha2 ha4))
      · refine ⟨_, rfl, ?_⟩
        refine WL.dOp ?_
        refine WL.lit (E := intE) (ys := []) .nil rfl rfl rfl (fun x hx => ?_)
        refine WL.nil ?_
        exact hany _ _ _ _ (hsub _ _ _ _ _ _ _ (by decide +kernel) (by repeat (first | exact trivial | refine ⟨rfl, ?_⟩)) (fun _ h => h.sel (by repeat (first | exact Sel.nil | apply Sel.cons (by repeat (first | exact Del.here | apply Del.there))))) (S1_234 c0 a2 x a4 hc0 ha2 hx ha4))
    have S1_34 : ∀ (c0 a3 a4 : Value), c0.oneCell' = true → a3.oneCell' = true → a4.oneCell' = true → W 8 #[true, true, true, true, false, true, true, false, false, true, true, false, true, true, true, true, true, false, true, true, true, false, false, false] ([(6, c0), (17, a3), (21, a4)] ++ [(5, h.l), (9, h.p), (13, h.d), (16, .int .i64 c), (19, h.n), (23, h.s), (2, .pointer (some ⟨b2, 0, none⟩))]) [own entE 4 c0 118 m.log, own intE 1 a3 3 [], own intE 1 a4 3 [], blk b2 62 [.slice none 0 0, .slice none 0 0, .slice none 0 0, .int .i64 0, .slice none 0 0, .slice none 0 0], blk b1 62 (houE h c)] := by
      intro c0 a3 a4 hc0 ha3 ha4
      apply hto
      refine WH.step [4, 8] (by repeat (first | exact List.nil_sublist _ | exact List.Sublist.refl _ | apply List.Sublist.cons_cons | apply List.Sublist.cons)) (by decide +kernel) (by decide) ?_
      intro j hj
      simp only [List.mem_cons, List.not_mem_nil, or_false] at hj
      rcases hj with rfl | rfl
      · refine ⟨_, rfl, ?_⟩
        refine WL.dOp ?_
        refine WL.lit (E := intE) (ys := []) .nil rfl rfl rfl (fun x hx => ?_)
        refine WL.nil ?_
        exact hany _ _ _ _ (hsub _ _ _ _ _ _ _ (by decide +kernel) (by repeat (first | exact trivial | refine ⟨rfl, ?_⟩)) (fun _ h => h.sel (by repeat (first | exact Sel.nil | apply Sel.cons (by repeat (first | exact Del.here | apply Del.there))))) (S1_134 c0 x a3 a4 hc0 hx ha3 ha4))
      · refine ⟨_, rfl, ?_⟩
        refine WL.dOp ?_
        refine WL.lit (E := dealE) (ys := []) .nil rfl rfl rfl (fun x hx => ?_)
        refine WL.nil ?_
        exact hany _ _ _ _ (hsub _ _ _ _ _ _ _ (by decide +kernel) (by repeat (first | exact trivial | refine ⟨rfl, ?_⟩)) (fun _ h => h.sel (by repeat (first | exact Sel.nil | apply Sel.cons (by repeat (first | exact Del.here | apply Del.there))))) (S1_234 c0 x a3 a4 hc0 hx ha3 ha4))
    have S1_1 : ∀ (c0 a1 : Value), c0.oneCell' = true → a1.oneCell' = true → W 9 #[true, true, true, true, true, true, true, false, false, true, true, false, true, true, false, true, true, false, false, true, true, false, false, false] ([(6, c0), (7, a1)] ++ [(5, h.l), (9, h.p), (13, h.d), (16, .int .i64 c), (19, h.n), (23, h.s), (2, .pointer (some ⟨b2, 0, none⟩))]) [own entE 4 c0 118 m.log, own intE 1 a1 3 [], blk b2 62 [.slice none 0 0, .slice none 0 0, .slice none 0 0, .int .i64 0, .slice none 0 0, .slice none 0 0], blk b1 62 (houE h c)] := by
      intro c0 a1 hc0 ha1
      apply hto
      refine WH.step [7, 8, 14, 18] (by repeat (first | exact List.nil_sublist _ | exact List.Sublist.refl _ | apply List.Sublist.cons_cons | apply List.Sublist.cons)) (by decide +kernel) (by decide) ?_
      intro j hj
      simp only [List.mem_cons, List.not_mem_nil, or_false] at hj
      rcases hj with rfl | rfl | rfl | rfl
      · refine ⟨_, rfl, ?_⟩
        refine WL.dCall ?_
        refine WL.apX (us := m.purses) rfl rfl hs1 (by simp; omega) rfl rfl (fun x hx => ?_)
        refine WL.nil ?_
        exact hany _ _ _ _ (hsub _ _ _ _ _ _ _ (by decide +kernel) (by repeat (first | exact trivial | refine ⟨rfl, ?_⟩)) (fun _ h => h.sel (by repeat (first | exact Sel.nil | apply Sel.cons (by repeat (first | exact Del.here | apply Del.there))))) (S2_ c0 x hc0 hx))
      · refine ⟨_, rfl, ?_⟩
        refine WL.dOp ?_
        refine WL.lit (E := dealE) (ys := []) .nil rfl rfl rfl (fun x hx => ?_)
        refine WL.nil ?_
        exact hany _ _ _ _ (hsub _ _ _ _ _ _ _ (by decide +kernel) (by repeat (first | exact trivial | refine ⟨rfl, ?_⟩)) (fun _ h => h.sel (by repeat (first | exact Sel.nil | apply Sel.cons (by repeat (first | exact Del.here | apply Del.there))))) (S1_12 c0 a1 x hc0 ha1 hx))
      · refine ⟨_, rfl, ?_⟩
        refine WL.dOp ?_
        refine WL.lit (E := intE) (ys := []) .nil rfl rfl rfl (fun x hx => ?_)
        refine WL.nil ?_
        exact hany _ _ _ _ (hsub _ _ _ _ _ _ _ (by decide +kernel) (by repeat (first | exact trivial | refine ⟨rfl, ?_⟩)) (fun _ h => h.sel (by repeat (first | exact Sel.nil | apply Sel.cons (by repeat (first | exact Del.here | apply Del.there))))) (S1_13 c0 a1 x hc0 ha1 hx))
      · refine ⟨_, rfl, ?_⟩
        refine WL.dOp ?_
        refine WL.lit (E := intE) (ys := []) .nil rfl rfl rfl (fun x hx => ?_)
        refine WL.nil ?_
        exact hany _ _ _ _ (hsub _ _ _ _ _ _ _ (by decide +kernel) (by repeat (first | exact trivial | refine ⟨rfl, ?_⟩)) (fun _ h => h.sel (by repeat (first | exact Sel.nil | apply Sel.cons (by repeat (first | exact Del.here | apply Del.there))))) (S1_14 c0 a1 x hc0 ha1 hx))
    have S1_2 : ∀ (c0 a2 : Value), c0.oneCell' = true → a2.oneCell' = true → W 9 #[true, true, true, true, false, true, true, false, true, true, true, false, true, true, false, true, true, false, false, true, true, false, false, false] ([(6, c0), (11, a2)] ++ [(5, h.l), (9, h.p), (13, h.d), (16, .int .i64 c), (19, h.n), (23, h.s), (2, .pointer (some ⟨b2, 0, none⟩))]) [own entE 4 c0 118 m.log, own dealE 5 a2 70 [], blk b2 62 [.slice none 0 0, .slice none 0 0, .slice none 0 0, .int .i64 0, .slice none 0 0, .slice none 0 0], blk b1 62 (houE h c)] := by
      intro c0 a2 hc0 ha2
      apply hto
      refine WH.step [4, 14, 18] (by repeat (first | exact List.nil_sublist _ | exact List.Sublist.refl _ | apply List.Sublist.cons_cons | apply List.Sublist.cons)) (by decide +kernel) (by decide) ?_
      intro j hj
      simp only [List.mem_cons, List.not_mem_nil, or_false] at hj
      rcases hj with rfl | rfl | rfl
      · refine ⟨_, rfl, ?_⟩
        refine WL.dOp ?_
        refine WL.lit (E := intE) (ys := []) .nil rfl rfl rfl (fun x hx => ?_)
        refine WL.nil ?_
        exact hany _ _ _ _ (hsub _ _ _ _ _ _ _ (by decide +kernel) (by repeat (first | exact trivial | refine ⟨rfl, ?_⟩)) (fun _ h => h.sel (by repeat (first | exact Sel.nil | apply Sel.cons (by repeat (first | exact Del.here | apply Del.there))))) (S1_12 c0 x a2 hc0 hx ha2))
      · refine ⟨_, rfl, ?_⟩
        refine WL.dOp ?_
        refine WL.lit (E := intE) (ys := []) .nil rfl rfl rfl (fun x hx => ?_)
        refine WL.nil ?_
        exact hany _ _ _ _ (hsub _ _ _ _ _ _ _ (by decide +kernel) (by repeat (first | exact trivial | refine ⟨rfl, ?_⟩)) (fun _ h => h.sel (by repeat (first | exact Sel.nil | apply Sel.cons (by repeat (first | exact Del.here | apply Del.there))))) (S1_23 c0 a2 x hc0 ha2 hx))
      · refine ⟨_, rfl, ?_⟩
        refine WL.dOp ?_
        refine WL.lit (E := intE) (ys := []) .nil rfl rfl rfl (fun x hx => ?_)
        refine WL.nil ?_
        exact hany _ _ _ _ (hsub _ _ _ _ _ _ _ (by decide +kernel) (by repeat (first | exact trivial | refine ⟨rfl, ?_⟩)) (fun _ h => h.sel (by repeat (first | exact Sel.nil | apply Sel.cons (by repeat (first | exact Del.here | apply Del.there))))) (S1_24 c0 a2 x hc0 ha2 hx))
    have S1_3 : ∀ (c0 a3 : Value), c0.oneCell' = true → a3.oneCell' = true → W 9 #[true, true, true, true, false, true, true, false, false, true, true, false, true, true, true, true, true, false, false, true, true, false, false, false] ([(6, c0), (17, a3)] ++ [(5, h.l), (9, h.p), (13, h.d), (16, .int .i64 c), (19, h.n), (23, h.s), (2, .pointer (some ⟨b2, 0, none⟩))]) [own entE 4 c0 118 m.log, own intE 1 a3 3 [], blk b2 62 [.slice none 0 0, .slice none 0 0, .slice none 0 0, .int .i64 0, .slice none 0 0, .slice none 0 0], blk b1 62 (houE h c)] := by
      intro c0 a3 hc0 ha3
      apply hto
      refine WH.step [4, 8, 18] (by repeat (first | exact List.nil_sublist _ | exact List.Sublist.refl _ | apply List.Sublist.cons_cons | apply List.Sublist.cons)) (by decide +kernel) (by decide) ?_
      intro j hj
      simp only [List.mem_cons, List.not_mem_nil, or_false] at hj
      rcases hj with rfl | rfl | rfl
      · refine ⟨_, rfl, ?_⟩
        refine WL.dOp ?_
        refine WL.lit (E := intE) (ys := []) .nil rfl rfl rfl (fun x hx => ?_)
        refine WL.nil ?_
        exact hany _ _ _ _ (hsub _ _ _ _ _ _ _ (by decide +kernel) (by repeat (first | exact trivial | refine ⟨rfl, ?_⟩)) (fun _ h => h.sel (by repeat (first | exact Sel.nil | apply Sel.cons (by repeat (first | exact Del.here | apply Del.there))))) (S1_13 c0 x a3 hc0 hx ha3))
      · refine ⟨_, rfl, ?_⟩
        refine WL.dOp ?_
        refine WL.lit (E := dealE) (ys := []) .nil rfl rfl rfl (fun x hx => ?_)
        refine WL.nil ?_
        exact hany _ _ _ _ (hsub _ _ _ _ _ _ _ (by decide +kernel) (by repeat (first | exact trivial | refine ⟨rfl, ?_⟩)) (fun _ h => h.sel (by repeat (first | exact Sel.nil | apply Sel.cons (by repeat (first | exact Del.here | apply Del.there))))) (S1_23 c0 x a3 hc0 hx ha3))
      · refine ⟨_, rfl, ?_⟩
        refine WL.dOp ?_
        refine WL.lit (E := intE) (ys := []) .nil rfl rfl rfl (fun x hx => ?_)
        refine WL.nil ?_
        exact hany _ _ _ _ (hsub _ _ _ _ _ _ _ (by decide +kernel) (by repeat (first | exact trivial | refine ⟨rfl, ?_⟩)) (fun _ h => h.sel (by repeat (first | exact Sel.nil | apply Sel.cons (by repeat (first | exact Del.here | apply Del.there))))) (S1_34 c0 a3 x hc0 ha3 hx))
    have S1_4 : ∀ (c0 a4 : Value), c0.oneCell' = true → a4.oneCell' = true → W 9 #[true, true, true, true, false, true, true, false, false, true, true, false, true, true, false, true, true, false, true, true, true, false, false, false] ([(6, c0), (21, a4)] ++ [(5, h.l), (9, h.p), (13, h.d), (16, .int .i64 c), (19, h.n), (23, h.s), (2, .pointer (some ⟨b2, 0, none⟩))]) [own entE 4 c0 118 m.log, own intE 1 a4 3 [], blk b2 62 [.slice none 0 0, .slice none 0 0, .slice none 0 0, .int .i64 0, .slice none 0 0, .slice none 0 0], blk b1 62 (houE h c)] := by
      intro c0 a4 hc0 ha4
      apply hto
      refine WH.step [4, 8, 14] (by repeat (first | exact List.nil_sublist _ | exact List.Sublist.refl _ | apply List.Sublist.cons_cons | apply List.Sublist.cons)) (by decide +kernel) (by decide) ?_
      intro j hj
      simp only [List.mem_cons, List.not_mem_nil, or_false] at hj
      rcases hj with rfl | rfl | rfl
      · refine ⟨_, rfl, ?_⟩
        refine WL.dOp ?_
        refine WL.lit (E := intE) (ys := []) .nil rfl rfl rfl (fun x hx => ?_)
        refine WL.nil ?_
        exact hany _ _ _ _ (hsub _ _ _ _ _ _ _ (by decide +kernel) (by repeat (first | exact trivial | refine ⟨rfl, ?_⟩)) (fun _ h => h.sel (by repeat (first | exact Sel.nil | apply Sel.cons (by repeat (first | exact Del.here | apply Del.there))))) (S1_14 c0 x a4 hc0 hx ha4))
      · refine ⟨_, rfl, ?_⟩
        refine WL.dOp ?_
        refine WL.lit (E := dealE) (ys := []) .nil rfl rfl rfl (fun x hx => ?_)
        refine WL.nil ?_
        exact hany _ _ _ _ (hsub _ _ _ _ _ _ _ (by decide +kernel) (by repeat (first | exact trivial | refine ⟨rfl, ?_⟩)) (fun _ h => h.sel (by repeat (first | exact Sel.nil | apply Sel.cons (by repeat (first | exact Del.here | apply Del.there))))) (S1_24 c0 x a4 hc0 hx ha4))
      · refine ⟨_, rfl, ?_⟩
        refine WL.dOp ?_
        refine WL.lit (E := intE) (ys := []) .nil rfl rfl rfl (fun x hx => ?_)
        refine WL.nil ?_
        exact hany _ _ _ _ (hsub _ _ _ _ _ _ _ (by decide +kernel) (by repeat (first | exact trivial | refine ⟨rfl, ?_⟩)) (fun _ h => h.sel (by repeat (first | exact Sel.nil | apply Sel.cons (by repeat (first | exact Del.here | apply Del.there))))) (S1_34 c0 x a4 hc0 hx ha4))
    have S1_ : ∀ (c0 : Value), c0.oneCell' = true → W 10 #[true, true, true, true, false, true, true, false, false, true, true, false, true, true, false, true, true, false, false, true, true, false, false, false] ([(6, c0)] ++ [(5, h.l), (9, h.p), (13, h.d), (16, .int .i64 c), (19, h.n), (23, h.s), (2, .pointer (some ⟨b2, 0, none⟩))]) [own entE 4 c0 118 m.log, blk b2 62 [.slice none 0 0, .slice none 0 0, .slice none 0 0, .int .i64 0, .slice none 0 0, .slice none 0 0], blk b1 62 (houE h c)] := by
      intro c0 hc0
      apply hto
      refine WH.step [4, 8, 14, 18] (by repeat (first | exact List.nil_sublist _ | exact List.Sublist.refl _ | apply List.Sublist.cons_cons | apply List.Sublist.cons)) (by decide +kernel) (by decide) ?_
      intro j hj
      simp only [List.mem_cons, List.not_mem_nil, or_false] at hj
      rcases hj with rfl | rfl | rfl | rfl
      · refine ⟨_, rfl, ?_⟩
        refine WL.dOp ?_
        refine WL.lit (E := intE) (ys := []) .nil rfl rfl rfl (fun x hx => ?_)
        refine WL.nil ?_
        exact hany _ _ _ _ (hsub _ _ _ _ _ _ _ (by decide +kernel) (by repeat (first | exact trivial | refine ⟨rfl, ?_⟩)) (fun _ h => h.sel (by repeat (first | exact Sel.nil | apply Sel.cons (by repeat (first | exact Del.here | apply Del.there))))) (S1_1 c0 x hc0 hx))
      · refine ⟨_, rfl, ?_⟩
        refine WL.dOp ?_
        refine WL.lit (E := dealE) (ys := []) .nil rfl rfl rfl (fun x hx => ?_)
        refine WL.nil ?_
        exact hany _ _ _ _ (hsub _ _ _ _ _ _ _ (by decide +kernel) (by repeat (first | exact trivial | refine ⟨rfl, ?_⟩)) (fun _ h => h.sel (by repeat (first | exact Sel.nil | apply Sel.cons (by repeat (first | exact Del.here | apply Del.there))))) (S1_2 c0 x hc0 hx))
      · refine ⟨_, rfl, ?_⟩
        refine WL.dOp ?_
        refine WL.lit (E := intE) (ys := []) .nil rfl rfl rfl (fun x hx => ?_)
        refine WL.nil ?_
        exact hany _ _ _ _ (hsub _ _ _ _ _ _ _ (by decide +kernel) (by repeat (first | exact trivial | refine ⟨rfl, ?_⟩)) (fun _ h => h.sel (by repeat (first | exact Sel.nil | apply Sel.cons (by repeat (first | exact Del.here | apply Del.there))))) (S1_3 c0 x hc0 hx))
      · refine ⟨_, rfl, ?_⟩
        refine WL.dOp ?_
        refine WL.lit (E := intE) (ys := []) .nil rfl rfl rfl (fun x hx => ?_)
        refine WL.nil ?_
        exact hany _ _ _ _ (hsub _ _ _ _ _ _ _ (by decide +kernel) (by repeat (first | exact trivial | refine ⟨rfl, ?_⟩)) (fun _ h => h.sel (by repeat (first | exact Sel.nil | apply Sel.cons (by repeat (first | exact Del.here | apply Del.there))))) (S1_4 c0 x hc0 hx))
    have S0_01234 : ∀ (a0 a1 a2 a3 a4 : Value), a0.oneCell' = true → a1.oneCell' = true → a2.oneCell' = true → a3.oneCell' = true → a4.oneCell' = true → W 7 #[true, true, true, false, true, true, true, false, true, true, true, false, true, true, true, true, true, false, true, true, true, false, false, false] ([(3, a0), (7, a1), (11, a2), (17, a3), (21, a4)] ++ [(5, h.l), (9, h.p), (13, h.d), (16, .int .i64 c), (19, h.n), (23, h.s), (2, .pointer (some ⟨b2, 0, none⟩))]) [own entE 4 a0 118 [], own intE 1 a1 3 [], own dealE 5 a2 70 [], own intE 1 a3 3 [], own intE 1 a4 3 [], blk b2 62 [.slice none 0 0, .slice none 0 0, .slice none 0 0, .int .i64 0, .slice none 0 0, .slice none 0 0], blk b1 62 (houE h c)] := by
      intro a0 a1 a2 a3 a4 ha0 ha1 ha2 ha3 ha4
      apply hto
      refine WH.step [3] (by repeat (first | exact List.nil_sublist _ | exact List.Sublist.refl _ | apply List.Sublist.cons_cons | apply List.Sublist.cons)) (by decide +kernel) (by decide) ?_
      intro j hj
      simp only [List.mem_cons, List.not_mem_nil, or_false] at hj
      subst hj
      · refine ⟨_, rfl, ?_⟩
        refine WL.dCall ?_
        refine WL.apX (us := m.log) rfl rfl hs0 (by simp; omega) rfl rfl (fun x hx => ?_)
        refine WL.nil ?_
        exact hany _ _ _ _ (hsub _ _ _ _ _ _ _ (by decide +kernel) (by repeat (first | exact trivial | refine ⟨rfl, ?_⟩)) (fun _ h => h.sel (by repeat (first | exact Sel.nil | apply Sel.cons (by repeat (first | exact Del.here | apply Del.there))))) (S1_1234 x a1 a2 a3 a4 hx ha1 ha2 ha3 ha4))
    have S0_0123 : ∀ (a0 a1 a2 a3 : Value), a0.oneCell' = true → a1.oneCell' = true → a2.oneCell' = true → a3.oneCell' = true → W 8 #[true, true, true, false, true, true, true, false, true, true, true, false, true, true, true, true, true, false, false, true, true, false, false, false] ([(3, a0), (7, a1), (11, a2), (17, a3)] ++ [(5, h.l), (9, h.p), (13, h.d), (16, .int .i64 c), (19, h.n), (23, h.s), (2, .pointer (some ⟨b2, 0, none⟩))]) [own entE 4 a0 118 [], own intE 1 a1 3 [], own dealE 5 a2 70 [], own intE 1 a3 3 [], blk b2 62 [.slice none 0 0, .slice none 0 0, .slice none 0 0, .int .i64 0, .slice none 0 0, .slice none 0 0], blk b1 62 (houE h c)] := by
      intro a0 a1 a2 a3 ha0 ha1 ha2 ha3
      apply hto
      refine WH.step [3, 18] (by repeat (first | exact List.nil_sublist _ | exact List.Sublist.refl _ | apply List.Sublist.cons_cons | apply List.Sublist.cons)) (by decide +kernel) (by decide) ?_
      intro j hj
      simp only [List.mem_cons, List.not_mem_nil, or_false] at hj
      rcases hj with rfl | rfl
      · refine ⟨_, rfl, ?_⟩
        refine WL.dCall ?_
        refine WL.apX (us := m.log) rfl rfl hs0 (by simp; omega) rfl rfl (fun x hx => ?_)
        refine WL.nil ?_
        exact hany _ _ _ _ (hsub _ _ _ _ _ _ _ (by decide +kernel) (by repeat (first | exact trivial | refine ⟨rfl, ?_⟩)) (fun _ h => h.sel (by repeat (first | exact Sel.nil | apply Sel.cons (by repeat (first | exact Del.here | apply Del.there))))) (S1_123 x a1 a2 a3 hx ha1 ha2 ha3))
      · refine ⟨_, rfl, ?_⟩
        refine WL.dOp ?_
        refine WL.lit (E := intE) (ys := []) .nil rfl rfl rfl (fun x hx => ?_)
        refine WL.nil ?_
        exact hany _ _ _ _ (hsub _ _ _ _ _ _ _ (by decide +kernel) (by repeat (first | exact trivial | refine ⟨rfl, ?_⟩)) (fun _ h => h.sel (by repeat (first | exact Sel.nil | apply Sel.cons (by repeat (first | exact Del.here | apply Del.there))))) (S0_01234 a0 a1 a2 a3 x ha0 ha1 ha2 ha3 hx))
    have S0_0124 : ∀ (a0 a1 a2 a4 : Value), a0.oneCell' = true → a1.oneCell' = true → a2.oneCell' = true → a4.oneCell' = true → W 8 #[true, true, true, false, true, true, true, false, true, true, true, false, true, true, false, true, true, false, true, true, true, false, false, false] ([(3, a0), (7, a1), (11, a2), (21, a4)] ++ [(5, h.l), (9, h.p), (13, h.d), (16, .int .i64 c), (19, h.n), (23, h.s), (2, .pointer (some ⟨b2, 0, none⟩))]) [own entE 4 a0 118 [], own intE 1 a1 3 [], own dealE 5 a2 70 [], own intE 1 a4 3 [], blk b2 62 [.slice none 0 0, .slice none 0 0, .slice none 0 0, .int .i64 0, .slice none 0 0, .slice none 0 0], blk b1 62 (houE h c)] := by
      intro a0 a1 a2 a4 ha0 ha1 ha2 ha4
      apply hto
      refine WH.step [3, 14] (by repeat (first | exact List.nil_sublist _ | exact List.Sublist.refl _ | apply List.Sublist.cons_cons | apply List.Sublist.cons)) (by decide +kernel) (by decide) ?_
      intro j hj
      simp only [List.mem_cons, List.not_mem_nil, or_false] at hj
      rcases hj with rfl | rfl
      · refine ⟨_, rfl, ?_⟩
        refine WL.dCall ?_
        refine WL.apX (us := m.log) rfl rfl hs0 (by simp; omega) rfl rfl (fun x hx => ?_)
        refine WL.nil ?_
        exact hany _ _ _ _ (hsub _ _ _ _ _ _ _ (by decide +kernel) (by repeat (first | exact trivial | refine ⟨rfl, ?_⟩)) (fun _ h => h.sel (by repeat (first | exact Sel.nil | apply Sel.cons (by repeat (first | exact Del.here | apply Del.there))))) (S1_124 x a1 a2 a4 hx ha1 ha2 ha4))
      · refine ⟨_, rfl, ?_⟩
        refine WL.dOp ?_
        refine WL.lit (E := intE) (ys := []) .nil rfl rfl rfl (fun x hx => ?_)
        refine WL.nil ?_
        exact hany _ _ _ _ (hsub _ _ _ _ _ _ _ (by decide +kernel) (by repeat (first | exact trivial | refine ⟨rfl, ?_⟩)) (fun _ h => h.sel (by repeat (first | exact Sel.nil | apply Sel.cons (by repeat (first | exact Del.here | apply Del.there))))) (S0_01234 a0 a1 a2 x a4 ha0 ha1 ha2 hx ha4))
    have S0_0134 : ∀ (a0 a1 a3 a4 : Value), a0.oneCell' = true → a1.oneCell' = true → a3.oneCell' = true → a4.oneCell' = true → W 8 #[true, true, true, false, true, true, true, false, false, true, true, false, true, true, true, true, true, false, true, true, true, false, false, false] ([(3, a0), (7, a1), (17, a3), (21, a4)] ++ [(5, h.l), (9, h.p), (13, h.d), (16, .int .i64 c), (19, h.n), (23, h.s), (2, .pointer (some ⟨b2, 0, none⟩))]) [own entE 4 a0 118 [], own intE 1 a1 3 [], own intE 1 a3 3 [], own intE 1 a4 3 [], blk b2 62 [.slice none 0 0, .slice none 0 0, .slice none 0 0, .int .i64 0, .slice none 0 0, .slice none 0 0], blk b1 62 (houE h c)] := by
      intro a0 a1 a3 a4 ha0 ha1 ha3 ha4
      apply hto
      refine WH.step [3, 8] (by repeat (first | exact List.nil_sublist _ | exact List.Sublist.refl _ | apply List.Sublist.cons_cons | apply List.Sublist.cons)) (by decide +kernel) (by decide) ?_
      intro j hj
      simp only [List.mem_cons, List.not_mem_nil, or_false] at hj
      rcases hj with rfl | rfl
      · refine ⟨_, rfl, ?_⟩
        refine WL.dCall ?_
        refine WL.apX (us := m.log) rfl rfl hs0 (by simp; omega) rfl rfl (fun x hx => ?_)
        refine WL.nil ?_
        exact hany _ _ _ _ (hsub _ _ _ _ _ _ _ (by decide +kernel) (by repeat (first | exact trivial | refine ⟨rfl, ?_⟩)) (fun _ h => h.sel (by repeat (first | exact Sel.nil | apply Sel.cons (by repeat (first | exact Del.here | apply Del.there))))) (S1_134 x a1 a3 a4 hx ha1 ha3 ha4))
      · refine ⟨_, rfl, ?_⟩
        refine WL.dOp ?_
        refine WL.lit (E := dealE) (ys := []) .nil rfl rfl rfl (fun x hx => ?_)
        refine WL.nil ?_
        exact hany _ _ _ _ (hsub _ _ _ _ _ _ _ (by decide +kernel) (by repeat (first | exact trivial | refine ⟨rfl, ?_⟩)) (fun _ h => h.sel (by repeat (first | exact Sel.nil | apply Sel.cons (by repeat (first | exact Del.here | apply Del.there))))) (S0_01234 a0 a1 x a3 a4 ha0 ha1 hx ha3 ha4))
    have S0_0234 : ∀ (a0 a2 a3 a4 : Value), a0.oneCell' = true → a2.oneCell' = true → a3.oneCell' = true → a4.oneCell' = true → W 8 #[true, true, true, false, false, true, true, false, true, true, true, false, true, true, true, true, true, false, true, true, true, false, false, false] ([(3, a0), (11, a2), (17, a3), (21, a4)] ++ [(5, h.l), (9, h.p), (13, h.d), (16, .int .i64 c), (19, h.n), (23, h.s), (2, .pointer (some ⟨b2, 0, none⟩))]) [own entE 4 a0 118 [], own dealE 5 a2 70 [], own intE 1 a3 3 [], own intE 1 a4 3 [], blk b2 62 [.slice none 0 0, .slice none 0 0, .slice none 0 0, .int .i64 0, .slice none 0 0, .slice none 0 0], blk b1 62 (houE h c)] := by
      intro a0 a2 a3 a4 ha0 ha2 ha3 ha4
      apply hto
      refine WH.step [3, 4] (by repeat (first | exact List.nil_sublist _ | exact List.Sublist.refl _ | apply List.Sublist.cons_cons | apply List.Sublist.cons)) (by decide +kernel) (by decide) ?_
      intro j hj
      simp only [List.mem_cons, List.not_mem_nil, or_false] at hj
      rcases hj with rfl | rfl
      · refine ⟨_, rfl, ?_⟩
        refine WL.dCall ?_
        refine WL.apX (us := m.log) rfl rfl hs0 (by simp; omega) rfl rfl (fun x hx => ?_)
        refine WL.nil ?_
        exact hany _ _ _ _ (hsub _ _ _ _ _ _ _ (by decide +kernel) (by repeat (first | exact trivial | refine ⟨rfl, ?_⟩)) (fun _ h => h.sel (by repeat (first | exact Sel.nil | apply Sel.cons (by repeat (first | exact Del.here | apply Del.there))))) (S1_234 x a2 a3 a4 hx ha2 ha3 ha4))
      · refine ⟨_, rfl, ?_⟩
        refine WL.dOp ?_
        refine WL.lit (E := intE) (ys := []) .nil rfl rfl rfl (fun x hx => ?_)
        refine WL.nil ?_
        exact hany _ _ _ _ (hsub _ _ _ _ _ _ _ (by decide +kernel) (by repeat (first | exact trivial | refine ⟨rfl, ?_⟩)) (fun _ h => h.sel (by repeat (first | exact Sel.nil | apply Sel.cons (by repeat (first | exact Del.here | apply Del.there))))) (S0_01234 a0 x a2 a3 a4 ha0 hx ha2 ha3 ha4))
    have S0_1234 : ∀ (a1 a2 a3 a4 : Value), a1.oneCell' = true → a2.oneCell' = true → a3.oneCell' = true → a4.oneCell' = true → W 8 #[false, true, true, false, true, true, true, false, true, true, true, false, true, true, true, true, true, false, true, true, true, false, false, false] ([(7, a1), (11, a2), (17, a3), (21, a4)] ++ [(5, h.l), (9, h.p), (13, h.d), (16, .int .i64 c), (19, h.n), (23, h.s), (2, .pointer (some ⟨b2, 0, none⟩))]) [own intE 1 a1 3 [], own dealE 5 a2 70 [], own intE 1 a3 3 [], own intE 1 a4 3 [], blk b2 62 [.slice none 0 0, .slice none 0 0, .slice none 0 0, .int .i64 0, .slice none 0 0, .slice none 0 0], blk b1 62 (houE h c)] := by
      intro a1 a2 a3 a4 ha1 ha2 ha3 ha4
      apply hto
      refine WH.step [0] (by repeat (first | exact List.nil_sublist _ | exact List.Sublist.refl _ | apply List.Sublist.cons_cons | apply List.Sublist.cons)) (by decide +kernel) (by decide) ?_
      intro j hj
      simp only [List.mem_cons, List.not_mem_nil, or_false] at hj
      subst hj
      · refine ⟨_, rfl, ?_⟩
        refine WL.dOp ?_
        refine WL.lit (E := entE) (ys := []) .nil rfl rfl rfl (fun x hx => ?_)
        refine WL.nil ?_
        exact hany _ _ _ _ (hsub _ _ _ _ _ _ _ (by decide +kernel) (by repeat (first | exact trivial | refine ⟨rfl, ?_⟩)) (fun _ h => h.sel (by repeat (first | exact Sel.nil | apply Sel.cons (by repeat (first | exact Del.here | apply Del.there))))) (S0_01234 x a1 a2 a3 a4 hx ha1 ha2 ha3 ha4))
    have S0_012 : ∀ (a0 a1 a2 : Value), a0.oneCell' = true → a1.oneCell' = true → a2.oneCell' = true → W 9 #[true, true, true, false, true, true, true, false, true, true, true, false, true, true, false, true, true, false, false, true, true, false, false, false] ([(3, a0), (7, a1), (11, a2)] ++ [(5, h.l), (9, h.p), (13, h.d), (16, .int .i64 c), (19, h.n), (23, h.s), (2, .pointer (some ⟨b2, 0, none⟩))]) [own entE 4 a0 118 [], own intE 1 a1 3 [], own dealE 5 a2 70 [], blk b2 62 [.slice none 0 0, .slice none 0 0, .slice none 0 0, .int .i64 0, .slice none 0 0, .slice none 0 0], blk b1 62 (houE h c)] := by
      intro a0 a1 a2 ha0 ha1 ha2
      apply hto
      refine WH.step [3, 14, 18] (by repeat (first | exact List.nil_sublist _ | exact List.Sublist.refl _ | apply List.Sublist.cons_cons | apply List.Sublist.cons)) (by decide +kernel) (by decide) ?_
      intro j hj
      simp only [List.mem_cons, List.not_mem_nil, or_false] at hj
      rcases hj with rfl | rfl | rfl
      · refine ⟨_, rfl, ?_⟩
        refine WL.dCall ?_
        refine WL.apX (us := m.log) rfl rfl hs0 (by simp; omega) rfl rfl (fun x hx => ?_)
        refine WL.nil ?_
        exact hany _ _ _ _ (hsub _ _ _ _ _ _ _ (by decide +kernel) (by repeat (first | exact trivial | refine ⟨rfl, ?_⟩)) (fun _ h => h.sel (by repeat (first | exact Sel.nil | apply Sel.cons (by repeat (first | exact Del.here | apply Del.there))))) (S1_12 x a1 a2 hx ha1 ha2))
      · refine ⟨_, rfl, ?_⟩
        refine WL.dOp ?_
        refine WL.lit (E := intE) (ys := []) .nil rfl rfl rfl (fun x hx => ?_)
        refine WL.nil ?_
        exact hany _ _ _ _ (hsub _ _ _ _ _ _ _ (by decide +kernel) (by repeat (first | exact trivial | refine ⟨rfl, ?_⟩)) (fun _ h => h.sel (by repeat (first | exact Sel.nil | apply Sel.cons (by repeat (first | exact Del.here | apply Del.there))))) (S0_0123 a0 a1 a2 x ha0 ha1 ha2 hx))
      · refine ⟨_, rfl, ?_⟩
        refine WL.dOp ?_
        refine WL.lit (E := intE) (ys := []) .nil rfl rfl rfl (fun x hx => ?_)
        refine WL.nil ?_
        exact hany _ _ _ _ (hsub _ _ _ _ _ _ _ (by decide +kernel) (by repeat (first | exact trivial | refine ⟨rfl, ?_⟩)) (fun _ h => h.sel (by repeat (first | exact Sel.nil | apply Sel.cons (by repeat (first | exact Del.here | apply Del.there))))) (S0_0124 a0 a1 a2 x ha0 ha1 ha2 hx))
    have S0_013 : ∀ (a0 a1 a3 : Value), a0.oneCell' = true → a1.oneCell' = true → a3.oneCell' = true → W 9 #[true, true, true, false, true, true, true, false, false, true, true, false, true, true, true, true, true, false, false, true, true, false, false, false] ([(3, a0), (7, a1), (17, a3)] ++ [(5, h.l), (9, h.p), (13, h.d), (16, .int .i64 c), (19, h.n), (23, h.s), (2, .pointer (some ⟨b2, 0, none⟩))]) [own entE 4 a0 118 [], own intE 1 a1 3 [], own intE 1 a3 3 [], blk b2 62 [.slice none 0 0, .slice none 0 0, .slice none 0 0, .int .i64 0, .slice none 0 0, .slice none 0 0], blk b1 62 (houE h c)] := by
      intro a0 a1 a3 ha0 ha1 ha3
      apply hto
      refine WH.step [3, 8, 18] (by repeat (first | exact List.nil_sublist _ | exact List.Sublist.refl _ | apply List.Sublist.cons_cons | apply List.Sublist.cons)) (by decide +kernel) (by decide) ?_
      intro j hj
      simp only [List.mem_cons, List.not_mem_nil, or_false] at hj
      rcases hj with rfl | rfl | rfl
      · refine ⟨_, rfl, ?_⟩
        refine WL.dCall ?_
        refine WL.apX (us := m.log) rfl rfl hs0 (by simp; omega) rfl rfl (fun x hx => ?_)
        refine WL.nil ?_
        exact hany _ _ _ _ (hsub _ _ _ _ _ _ _ (by decide +kernel) (by repeat (first | exact trivial | refine ⟨rfl, ?_⟩)) (fun _ h => h.sel (by repeat (first | exact Sel.nil | apply Sel.cons (by repeat (first | exact Del.here | apply Del.there))))) (S1_13 x a1 a3 hx ha1 ha3))
      · refine ⟨_, rfl, ?_⟩
        refine WL.dOp ?_
        refine WL.lit (E := dealE) (ys := []) .nil rfl rfl rfl (fun x hx => ?_)
        refine WL.nil ?_
        exact hany _ _ _ _ (hsub _ _ _ _ _ _ _ (by decide +kernel) (by repeat (first | exact trivial | refine ⟨rfl, ?_⟩)) (fun _ h => h.sel (by repeat (first | exact Sel.nil | apply Sel.cons (by repeat (first | exact Del.here | apply Del.there))))) (S0_0123 a0 a1 x a3 ha0 ha1 hx ha3))
      · refine ⟨_, rfl, ?_⟩
        refine WL.dOp ?_
        refine WL.lit (E := intE) (ys := []) .nil rfl rfl rfl (fun x hx => ?_)
        refine WL.nil ?_
        exact hany _ _ _ _ (hsub _ _ _ _ _ _ _ (by decide +kernel) (by repeat (first | exact trivial | refine ⟨rfl, ?_⟩)) (fun _ h => h.sel (by repeat (first | exact Sel.nil | apply Sel.cons (by repeat (first | exact Del.here | apply Del.there))))) (S0_0134 a0 a1 a3 x ha0 ha1 ha3 hx))
    have S0_014 : ∀ (a0 a1 a4 : Value), a0.oneCell' = true → a1.oneCell' = true → a4.oneCell' = true → W 9 #[true, true, true, false, true, true, true, false, false, true, true, false, true, true, false, true, true, false, true, true, true, false, false, false] ([(3, a0), (7, a1), (21, a4)] ++ [(5, h.l), (9, h.p), (13, h.d), (16, .int .i64 c), (19, h.n), (23, h.s), (2, .pointer (some ⟨b2, 0, none⟩))]) [own entE 4 a0 118 [], own intE 1 a1 3 [], own intE 1 a4 3 [], blk b2 62 [.slice none 0 0, .slice none 0 0, .slice none 0 0, .int .i64 0, .slice none 0 0, .slice none 0 0], blk b1 62 (houE h c)] := by
      intro a0 a1 a4 ha0 ha1 ha4
      apply hto
      refine WH.step [3, 8, 14] (by repeat (first | exact List.nil_sublist _ | exact List.Sublist.refl _ | apply List.Sublist.cons_cons | apply List.Sublist.cons)) (by decide +kernel) (by decide) ?_
      intro j hj
      simp only [List.mem_cons, List.not_mem_nil, or_false] at hj
      rcases hj with rfl | rfl | rfl
      · refine ⟨_, rfl, ?_⟩
        refine WL.dCall ?_
        refine WL.apX (us := m.log) rfl rfl hs0 (by simp; omega) rfl rfl (fun x hx => ?_)
        refine WL.nil ?_
        exact hany _ _ _ _ (hsub _ _ _ _ _ _ _ (by decide +kernel) (by repeat (first | exact trivial | refine ⟨rfl, ?_⟩)) (fun _ h => h.sel (by repeat (first | exact Sel.nil | apply Sel.cons (by repeat (first | exact Del.here | apply Del.there))))) (S1_14 x a1 a4 hx ha1 ha4))
      · refine ⟨_, rfl, ?_⟩
        refine WL.dOp ?_
        refine WL.lit (E := dealE) (ys := []) .nil rfl rfl rfl (fun x hx => ?_)
        refine WL.nil ?_
        exact hany _ _ _ _ (hsub _ _ _ _ _ _ _ (by decide +kernel) (by repeat (first | exact trivial | refine ⟨rfl, ?_⟩)) (fun _ h => h.sel (by repeat (first | exact Sel.nil | apply Sel.cons (by repeat (first | exact Del.here | apply Del.there))))) (S0_0124 a0 a1 x a4 ha0 ha1 hx ha4))
      · refine ⟨_, rfl, ?_⟩
        refine WL.dOp ?_
        refine WL.lit (E := intE) (ys := []) .nil rfl rfl rfl (fun x hx => ?_)
        refine WL.nil ?_
        exact hany _ _ _ _ (hsub _ _ _ _ _ _ _ (by decide +kernel) (by repeat (first | exact trivial | refine ⟨rfl, ?_⟩)) (fun _ h => h.sel (by repeat (first | exact Sel.nil | apply Sel.cons (by repeat (first | exact Del.here | apply Del.there))))) (S0_0134 a0 a1 x a4 ha0 ha1 hx ha4))
    have S0_023 : ∀ (a0 a2 a3 : Value), a0.oneCell' = true → a2.oneCell' = true → a3.oneCell' = true → W 9 #[true, true, true, false, false, true, true, false, true, true, true, false, true, true, true, true, true, false, false, true, true, false, false, false] ([(3, a0), (11, a2), (17, a3)] ++ [(5, h.l), (9, h.p), (13, h.d), (16, .int .i64 c), (19, h.n), (23, h.s), (2, .pointer (some ⟨b2, 0, none⟩))]) [own entE 4 a0 118 [], own dealE 5 a2 70 [], own intE 1 a3 3 [], blk b2 62 [.slice none 0 0, .slice none 0 0, .slice none 0 0, .int .i64 0, .slice none 0 0, .slice none 0 0], blk b1 62 (houE h c)] := by
      intro a0 a2 a3 ha0 ha2 ha3
      apply hto
      refine WH.step [3, 4, 18] (by repeat (first | exact List.nil_sublist _ | exact List.Sublist.refl _ | apply List.Sublist.cons_cons | apply List.Sublist.cons)) (by decide +kernel) (by decide) ?_
      intro j hj
      simp only [List.mem_cons, List.not_mem_nil, or_false] at hj
      rcases hj with rfl | rfl | rfl
      · refine ⟨_, rfl, ?_⟩
        refine WL.dCall ?_
        refine WL.apX (us := m.log) rfl rfl hs0 (by simp; omega) rfl rfl (fun x hx => ?_)
        refine WL.nil ?_
        exact hany _ _ _ _ (hsub _ _ _ _ _ _ _ (by decide +kernel) (by repeat (first | exact trivial | refine ⟨rfl, ?_⟩)) (fun _ h => h.sel (by repeat (first | exact Sel.nil | apply Sel.cons (by repeat (first | exact Del.here | apply Del.there))))) (S1_23 x a2 a3 hx ha2 ha3))
      · refine ⟨_, rfl, ?_⟩
        refine WL.dOp ?_
        refine WL.lit (E := intE) (ys := []) .nil rfl rfl rfl (fun x hx => ?_)
        refine WL.nil ?_
        exact hany _ _ _ _ (hsub _ _ _ _ _ _ _ (by decide +kernel) (by repeat (first | exact trivial | refine ⟨rfl, ?_⟩)) (fun _ h => h.sel (by repeat (first | exact Sel.nil | apply Sel.cons (by repeat (first | exact Del.here | apply Del.there))))) (S0_0123 a0 x a2 a3 ha0 hx ha2 ha3))
      · refine ⟨_, rfl, ?_⟩
        refine WL.dOp ?_
        refine WL.lit (E := intE) (ys := []) .nil rfl rfl rfl (fun x hx => ?_)
        refine WL.nil ?_
        exact hany _ _ _ _ (hsub _ _ _ _ _ _ _ (by decide +kernel) (by repeat (first | exact trivial | refine ⟨rfl, ?_⟩)) (fun _ h => h.sel (by repeat (first | exact Sel.nil | apply Sel.cons (by repeat (first | exact Del.here | apply Del.there))))) (S0_0234 a0 a2 a3 x ha0 ha2 ha3 hx))
    have S0_024 : ∀ (a0 a2 a4 : Value), a0.oneCell' = true → a2.oneCell' = true → a4.oneCell' = true → W 9 #[true, true, true, false, false, true, true, false, true, true, true, false, true, true, false, true, true, false, true, true, true, false, false, false] ([(3, a0), (11, a2), (21, a4)] ++ [(5, h.l), (9, h.p), (13, h.d), (16, .int .i64 c), (19, h.n), (23, h.s), (2, .pointer (some ⟨b2, 0, none⟩))]) [own entE 4 a0 118 [], own dealE 5 a2 70 [], own intE 1 a4 3 [], blk b2 62 [.slice none 0 0, .slice none 0 0, .slice none 0 0, .int .i64 0, .slice none 0 0, .slice none 0 0], blk b1 62 (houE h c)] := by
      intro a0 a2 a4 ha0 ha2 ha4
      apply hto
      refine WH.step [3, 4, 14] (by repeat (first | exact List.nil_sublist _ | exact List.Sublist.refl _ | apply List.Sublist.cons_cons | apply List.Sublist.cons)) (by decide +kernel) (by decide) ?_
      intro j hj
      simp only [List.mem_cons, List.not_mem_nil, or_false] at hj
      rcases hj with rfl | rfl | rfl
      · refine ⟨_, rfl, ?_⟩
        refine WL.dCall ?_
        refine WL.apX (us := m.log) rfl rfl hs0 (by simp; omega) rfl rfl (fun x hx => ?_)
        refine WL.nil ?_
        exact hany _ _ _ _ (hsub _ _ _ _ _ _ _ (by decide +kernel) (by repeat (first | exact trivial | refine ⟨rfl, ?_⟩)) (fun _ h => h.sel (by repeat (first | exact Sel.nil | apply Sel.cons (by repeat (first | exact Del.here | apply Del.there))))) (S1_24 x a2 a4 hx ha2 ha4))
      · refine ⟨_, rfl, ?_⟩
        refine WL.dOp ?_
        refine WL.lit (E := intE) (ys := []) .nil rfl rfl rfl (fun x hx => ?_)
        refine WL.nil ?_
        exact hany _ _ _ _ (hsub _ _ _ _ _ _ _ (by decide +kernel) (by repeat (first | exact trivial | refine ⟨rfl, ?_⟩)) (fun _ h => h.sel (by repeat (first | exact Sel.nil | apply Sel.cons (by repeat (first | exact Del.here | apply Del.there))))) (S0_0124 a0 x a2 a4 ha0 hx ha2 ha4))
      · refine ⟨_, rfl, ?_⟩
        refine WL.dOp ?_
        refine WL.lit (E := intE) (ys := []) .nil rfl rfl rfl (fun x hx => ?_)
        refine WL.nil ?_
        exact hany _ _ _ _ (hsub _ _ _ _ _ _ _ (by decide +kernel) (by repeat (first | exact trivial | refine ⟨rfl, ?_⟩)) (fun _ h => h.sel (by repeat (first | exact Sel.nil | apply Sel.cons (by repeat (first | exact Del.here | apply Del.there))))) (S0_0234 a0 a2 x a4 ha0 ha2 hx ha4))
    have S0_034 : ∀ (a0 a3 a4 : Value), a0.oneCell' = true → a3.oneCell' = true → a4.oneCell' = true → W 9 #[true, true, true, false, false, true, true, false, false, true, true, false, true, true, true, true, true, false, true, true, true, false, false, false] ([(3, a0), (17, a3), (21, a4)] ++ [(5, h.l), (9, h.p), (13, h.d), (16, .int .i64 c), (19, h.n), (23, h.s), (2, .pointer (some ⟨b2, 0, none⟩))]) [own entE 4 a0 118 [], own intE 1 a3 3 [], own intE 1 a4 3 [], blk b2 62 [.slice none 0 0, .slice none 0 0, .slice none 0 0, .int .i64 0, .slice none 0 0, .slice none 0 0], blk b1 62 (houE h c)] := by
      intro a0 a3 a4 ha0 ha3 ha4
      apply hto
      refine WH.step [3, 4, 8] (by repeat (first | exact List.nil_sublist _ | exact List.Sublist.refl _ | apply List.Sublist.cons_cons | apply List.Sublist.cons)) (by decide +kernel) (by decide) ?_
      intro j hj
      simp only [List.mem_cons, List.not_mem_nil, or_false] at hj
      rcases hj with rfl | rfl | rfl
      · refine ⟨_, rfl, ?_⟩
        refine WL.dCall ?_
        refine WL.apX (us := m.log) rfl rfl hs0 (by simp; omega) rfl rfl (fun x hx => ?_)
        refine WL.nil ?_
        exact hany _ _ _ _ (hsub _ _ _ _ _ _ _ (by decide +kernel) (by repeat (first | exact trivial | refine ⟨rfl, ?_⟩)) (fun _ h => h.sel (by repeat (first | exact Sel.nil | apply Sel.cons (by repeat (first | exact Del.here | apply Del.there))))) (S1_34 x a3 a4 hx ha3 ha4))
      · refine ⟨_, rfl, ?_⟩
        refine WL.dOp ?_
        refine WL.lit (E := intE) (ys := []) .nil rfl rfl rfl (fun x hx => ?_)
        refine WL.nil ?_
        exact hany _ _ _ _ (hsub _ _ _ _ _ _ _ (by decide +kernel) (by repeat (first | exact trivial | refine ⟨rfl, ?_⟩)) (fun _ h => h.sel (by repeat (first | exact Sel.nil | apply Sel.cons (by repeat (first | exact Del.here | apply Del.there))))) (S0_0134 a0 x a3 a4 ha0 hx ha3 ha4))
      · refine ⟨_, rfl, ?_⟩
        refine WL.dOp ?_
        refine WL.lit (E := dealE) (ys := []) .nil rfl rfl rfl (fun x hx => ?_)
        refine WL.nil ?_
        exact hany _ _ _ _ (hsub _ _ _ _ _ _ _ (by decide +kernel) (by repeat (first | exact trivial | refine ⟨rfl, ?_⟩)) (fun _ h => h.sel (by repeat (first | exact Sel.nil | apply Sel.cons (by repeat (first | exact Del.here | apply Del.there))))) (S0_0234 a0 x a3 a4 ha0 hx ha3 ha4))
    have S0_123 : ∀ (a1 a2 a3 : Value), a1.oneCell' = true → a2.oneCell' = true → a3.oneCell' = true → W 9 #[false, true, true, false, true, true, true, false, true, true, true, false, true, true, true, true, true, false, false, true, true, false, false, false] ([(7, a1), (11, a2), (17, a3)] ++ [(5, h.l), (9, h.p), (13, h.d), (16, .int .i64 c), (19, h.n), (23, h.s), (2, .pointer (some ⟨b2, 0, none⟩))]) [own intE 1 a1 3 [], own dealE 5 a2 70 [], own intE 1 a3 3 [], blk b2 62 [.slice none 0 0, .slice none 0 0, .slice none 0 0, .int .i64 0, .slice none 0 0, .slice none 0 0], blk b1 62 (houE h c)] := by
      intro a1 a2 a3 ha1 ha2 ha3
      apply hto
      refine WH.step [0, 18] (by repeat (first | exact List.nil_sublist _ | exact List.Sublist.refl _ | apply List.Sublist.cons_cons | apply List.Sublist.cons)) (by decide +kernel) (by decide) ?_
      intro j hj
      simp only [List.mem_cons, List.not_mem_nil, or_false] at hj
      rcases hj with rfl | rfl
      · refine ⟨_, rfl, ?_⟩
        refine WL.dOp ?_
        refine WL.lit (E := entE) (ys := []) .nil rfl rfl rfl (fun x hx => ?_)
        refine WL.nil ?_
        exact hany _ _ _ _ (hsub _ _ _ _ _ _ _ (by decide +kernel) (by repeat (first | exact trivial | refine ⟨rfl, ?_⟩)) (fun _ h => h.sel (by repeat (first | exact Sel.nil | apply Sel.cons (by repeat (first | exact Del.here | apply Del.there))))) (S0_0123 x a1 a2 a3 hx ha1 ha2 ha3))
      · refine ⟨_, rfl, ?_⟩
        refine WL.dOp ?_
        refine WL.lit (E := intE) (ys := []) .nil rfl rfl rfl (fun x hx => ?_)
        refine WL.nil ?_
        exact hany _ _ _ _ (hsub _ _ _ _ _ _ _ (by decide +kernel) (by repeat (first | exact trivial | refine ⟨rfl, ?_⟩)) (fun _ h => h.sel (by repeat (first | exact Sel.nil | apply Sel.cons (by repeat (first | exact Del.here | apply Del.there))))) (S0_1234 a1 a2 a3 x ha1 ha2 ha3 hx))
    have S0_124 : ∀ (a1 a2 a4 : Value), a1.oneCell' = true → a2.oneCell' = true → a4.oneCell' = true → W 9 #[false, true, true, false, true, true, true, false, true, true, true, false, true, true, false, true, true, false, true, true, true, false, false, false] ([(7, a1), (11, a2), (21, a4)] ++ [(5, h.l), (9, h.p), (13, h.d), (16, .int .i64 c), (19, h.n), (23, h.s), (2, .pointer (some ⟨b2, 0, none⟩))]) [own intE 1 a1 3 [], own dealE 5 a2 70 [], own intE 1 a4 3 [], blk b2 62 [.slice none 0 0, .slice none 0 0, .slice none 0 0, .int .i64 0, .slice none 0 0, .slice none 0 0], blk b1 62 (houE h c)] := by
      intro a1 a2 a4 ha1 ha2 ha4
      apply hto
      refine WH.step [0, 14] (by repeat (first | exact List.nil_sublist _ | exact List.Sublist.refl _ | apply List.Sublist.cons_cons | apply List.Sublist.cons)) (by decide +kernel) (by decide) ?_
      intro j hj
      simp only [List.mem_cons, List.not_mem_nil, or_false] at hj
      rcases hj with rfl | rfl
      · refine ⟨_, rfl, ?_⟩
        refine WL.dOp ?_
        refine WL.lit (E := entE) (ys := []) .nil rfl rfl rfl (fun x hx => ?_)
        refine WL.nil ?_
        exact hany _ _ _ _ (hsub _ _ _ _ _ _ _ (by decide +kernel) (by repeat (first | exact trivial | refine ⟨rfl, ?_⟩)) (fun _ h => h.sel (by repeat (first | exact Sel.nil | apply Sel.cons (by repeat (first | exact Del.here | apply Del.there))))) (S0_0124 x a1 a2 a4 hx ha1 ha2 ha4))
      · refine ⟨_, rfl, ?_⟩
        refine WL.dOp ?_
        refine WL.lit (E := intE) (ys := []) .nil rfl rfl rfl (fun x hx => ?_)
        refine WL.nil ?_
        exact hany _ _ _ _ (hsub _ _ _ _ _ _ _ (by decide +kernel) (by repeat (first | exact trivial | refine ⟨rfl, ?_⟩)) (fun _ h => h.sel (by repeat (first | exact Sel.nil | apply Sel.cons (by repeat (first | exact Del.here | apply Del.there))))) (S0_1234 a1 a2 x a4 ha1 ha2 hx ha4))
    have S0_134 : ∀ (a1 a3 a4 : Value), a1.oneCell' = true → a3.oneCell' = true → a4.oneCell' = true → W 9 #[false, true, true, false, true, true, true, false, false, true, true, false, true, true, true, true, true, false, true, true, true, false, false, false] ([(7, a1), (17, a3), (21, a4)] ++ [(5, h.l), (9, h.p), (13, h.d), (16, .int .i64 c), (19, h.n), (23, h.s), (2, .pointer (some ⟨b2, 0, none⟩))]) [own intE 1 a1 3 [], own intE 1 a3 3 [], own intE 1 a4 3 [], blk b2 62 [.slice none 0 0, .slice none 0 0, .slice none 0 0, .int .i64 0, .slice none 0 0, .slice none 0 0], blk b1 62 (houE h c)] := by
      intro a1 a3 a4 ha1 ha3 ha4
      apply hto
      refine WH.step [0, 8] (by repeat (first | exact List.nil_sublist _ | exact List.Sublist.refl _ | apply List.Sublist.cons_cons | apply List.Sublist.cons)) (by decide +kernel) (by decide) ?_
      intro j hj
      simp only [List.mem_cons, List.not_mem_nil, or_false] at hj
      rcases hj with rfl | rfl
      · refine ⟨_, rfl, ?_⟩
        refine WL.dOp ?_
        refine WL.lit (E := entE) (ys := []) .nil rfl rfl rfl (fun x hx => ?_)
        refine WL.nil ?_
        exact hany _ _ _ _ (hsub _ _ _ _ _ _ _ (by decide +kernel) (by repeat (first | exact trivial | refine ⟨rfl, ?_⟩)) (fun _ h => h.sel (by repeat (first | exact Sel.nil | apply Sel.cons (by repeat (first | exact Del.here | apply Del.there))))) (S0_0134 x a1 a3 a4 hx ha1 ha3 ha4))
      · refine ⟨_, rfl, ?_⟩
        refine WL.dOp ?_
        refine WL.lit (E := dealE) (ys := []) .nil rfl rfl rfl (fun x hx => ?_)
        refine WL.nil ?_
        exact hany _ _ _ _ (hsub _ _ _ _ _ _ _ (by decide +kernel) (by repeat (first | exact trivial | refine ⟨rfl, ?_⟩)) (fun _ h => h.sel (by repeat (first | exact Sel.nil | apply Sel.cons (by repeat (first | exact Del.here | apply Del.there))))) (S0_1234 a1 x a3 a4 ha1 hx ha3 ha4))
    have S0_234 : ∀ (a2 a3 a4 : Value), a2.oneCell' = true → a3.oneCell' = true → a4.oneCell' = true → W 9 #[false, true, true, false, false, true, true, false, true, true, true, false, true, true, true, true, true, false, true, true, true, false, false, false] ([(11, a2), (17, a3), (21, a4)] ++ [(5, h.l), (9, h.p), (13, h.d), (16, .int .i64 c), (19, h.n), (23, h.s), (2, .pointer (some ⟨b2, 0, none⟩))]) [own dealE 5 a2 70 [], own intE 1 a3 3 [], own intE 1 a4 3 [], blk b2 62 [.slice none 0 0, .slice none 0 0, .slice none 0 0, .int .i64 0, .slice none 0 0, .slice none 0 0], blk b1 62 (houE h c)] := by
      intro a2 a3 a4 ha2 ha3 ha4
      apply hto
      refine WH.step [0, 4] (by repeat (first | exact List.nil_sublist _ | exact List.Sublist.refl _ | apply List.Sublist.cons_cons | apply List.Sublist.cons)) (by decide +kernel) (by decide) ?_
      intro j hj
      simp only [List.mem_cons, List.not_mem_nil, or_false] at hj
      rcases hj with rfl | rfl
      · refine ⟨_, rfl, ?_⟩
        refine WL.dOp ?_
        refine WL.lit (E := entE) (ys := []) .nil rfl rfl rfl (fun x hx => ?_)
        refine WL.nil ?_
        exact hany _ _ _ _ (hsub _ _ _ _ _ _ _ (by decide +kernel) (by repeat (first | exact trivial | refine ⟨rfl, ?_⟩)) (fun _ h => h.sel (by repeat (first | exact Sel.nil | apply Sel.cons (by repeat (first | exact Del.here | apply Del.there))))) (S0_0234 x a2 a3 a4 hx ha2 ha3 ha4))
      · refine ⟨_, rfl, ?_⟩
        refine WL.dOp ?_
        refine WL.lit (E := intE) (ys := []) .nil rfl rfl rfl (fun x hx => ?_)
        refine WL.nil ?_
        exact hany _ _ _ _ (hsub _ _ _ _ _ _ _ (by decide +kernel) (by repeat (first | exact trivial | refine ⟨rfl, ?_⟩)) (fun _ h => h.sel (by repeat (first | exact Sel.nil | apply Sel.cons (by repeat (first | exact Del.here | apply Del.there))))) (S0_1234 x a2 a3 a4 hx ha2 ha3 ha4))
    have S0_01 : ∀ (a0 a1 : Value), a0.oneCell' = true → a1.oneCell' = true → W 10 #[true, true, true, false, true, true, true, false, false, true, true, false, true, true, false, true, true, false, false, true, true, false, false, false] ([(3, a0), (7, a1)] ++ [(5, h.l), (9, h.p), (13, h.d), (16, .int .i64 c), (19, h.n), (23, h.s), (2, .pointer (some ⟨b2, 0, none⟩))]) [own entE 4 a0 118 [], own intE 1 a1 3 [], blk b2 62 [.slice none 0 0, .slice none 0 0, .slice none 0 0, .int .i64 0, .slice none 0 0, .slice none 0 0], blk b1 62 (houE h c)] := by
      intro a0 a1 ha0 ha1
      apply hto
      refine WH.step [3, 8, 14, 18] (by repeat (first | exact List.nil_sublist _ | exact List.Sublist.refl _ | apply List.Sublist.cons_cons | apply List.Sublist.cons)) (by decide +kernel) (by decide) ?_
      intro j hj
      simp only [List.mem_cons, List.not_mem_nil, or_false] at hj
      rcases hj with rfl | rfl | rfl | rfl
      · refine ⟨_, rfl, ?_⟩
        refine WL.dCall ?_
        refine WL.apX (us := m.log) rfl rfl hs0 (by simp; omega) rfl rfl (fun x hx => ?_)
        refine WL.nil ?_
        exact hany _ _ _ _ (hsub _ _ _ _ _ _ _ (by decide +kernel) (by repeat (first | exact trivial | refine ⟨rfl, ?_⟩)) (fun _ h => h.sel (by repeat (first | exact Sel.nil | apply Sel.cons (by repeat (first | exact Del.here | apply Del.there))))) (S1_1 x a1 hx ha1))
      · refine ⟨_, rfl, ?_⟩
        refine WL.dOp ?_
        refine WL.lit (E := dealE) (ys := []) .nil rfl rfl rfl (fun x hx => ?_)
        refine WL.nil ?_
        exact hany _ _ _ _ (hsub _ _ _ _ _ _ _ (by decide +kernel) (by repeat (first | exact trivial | refine ⟨rfl, ?_⟩)) (fun _ h => h.sel (by repeat (first | exact Sel.nil | apply Sel.cons (by repeat (first | exact Del.here | apply Del.there))))) (S0_012 a0 a1 x ha0 ha1 hx))
      · refine ⟨_, rfl, ?_⟩
        refine WL.dOp ?_
        refine WL.lit (E := intE) (ys := []) .nil rfl rfl rfl (fun x hx => ?_)
        refine WL.nil ?_
        exact hany _ _ _ _ (hsub _ _ _ _ _ _ _ (by decide +kernel) (by repeat (first | exact trivial | refine ⟨rfl, ?_⟩)) (fun _ h => h.sel (by repeat (first | exact Sel.nil | apply Sel.cons (by repeat (first | exact Del.here | apply Del.there))))) (S0_013 a0 a1 x ha0 ha1 hx))
      · refine ⟨_, rfl, ?_⟩
        refine WL.dOp ?_
        refine WL.lit (E := intE) (ys := []) .nil rfl rfl rfl (fun x hx => ?_)
        refine WL.nil ?_
        exact hany _ _ _ _ (hsub _ _ _ _ _ _ _ (by decide +kernel) (by repeat (first | exact trivial | refine ⟨rfl, ?_⟩)) (fun _ h => h.sel (by repeat (first | exact Sel.nil | apply Sel.cons (by repeat (first | exact Del.here | apply Del.there))))) (S0_014 a0 a1 x ha0 ha1 hx))
    have S0_02 : ∀ (a0 a2 : Value), a0.oneCell' = true → a2.oneCell' = true → W 10 #[true, true, true, false, false, true, true, false, true, true, true, false, true, true, false, true, true, false, false, true, true, false, false, false] ([(3, a0), (11, a2)] ++ [(5, h.l), (9, h.p), (13, h.d), (16, .int .i64 c), (19, h.n), (23, h.s), (2, .pointer (some ⟨b2, 0, none⟩))]) [own entE 4 a0 118 [], own dealE 5 a2 70 [], blk b2 62 [.slice none 0 0, .slice none 0 0, .slice none 0 0, .int .i64 0, .slice none 0 0, .slice none 0 0], blk b1 62 (houE h c)] := by
      intro a0 a2 ha0 ha2
      apply hto
      refine WH.step [3, 4, 14, 18] (by repeat (first | exact List.nil_sublist _ | exact List.Sublist.refl _ | apply List.Sublist.cons_cons | apply List.Sublist.cons)) (by decide +kernel) (by decide) ?_
      intro j hj
      simp only [List.mem_cons, List.not_mem_nil, or_false] at hj
      rcases hj with rfl | rfl | rfl | rfl
      · refine ⟨_, rfl, ?_⟩
        refine WL.dCall ?_
        refine WL.apX (us := m.log) rfl rfl hs0 (by simp; omega) rfl rfl (fun x hx => ?_)
        refine WL.nil ?_
        exact hany _ _ _ _ (hsub _ _ _ _ _ _ _ (by decide +kernel) (by repeat (first | exact trivial | refine ⟨rfl, ?_⟩)) (fun _ h => h.sel (by repeat (first | exact Sel.nil | apply Sel.cons (by repeat (first | exact Del.here | apply Del.there))))) (S1_2 x a2 hx ha2))
      · refine ⟨_, rfl, ?_⟩
        refine WL.dOp ?_
        refine WL.lit (E := intE) (ys := []) .nil rfl rfl rfl (fun x hx => ?_)
        refine WL.nil ?_
        exact hany _ _ _ _ (hsub _ _ _ _ _ _ _ (by decide +kernel) (by repeat (first | exact trivial | refine ⟨rfl, ?_⟩)) (fun _ h => h.sel (by repeat (first | exact Sel.nil | apply Sel.cons (by repeat (first | exact Del.here | apply Del.there))))) (S0_012 a0 x a2 ha0 hx ha2))
      · refine ⟨_, rfl, ?_⟩
        refine WL.dOp ?_
        refine WL.lit (E := intE) (ys := []) .nil rfl rfl rfl (fun x hx => ?_)
        refine WL.nil ?_
        exact hany _ _ _ _ (hsub _ _ _ _ _ _ _ (by decide +kernel) (by repeat (first | exact trivial | refine ⟨rfl, ?_⟩)) (fun _ h => h.sel (by repeat (first | exact Sel.nil | apply Sel.cons (by repeat (first | exact Del.here | apply Del.there))))) (S0_023 a0 a2 x ha0 ha2 hx))
      · refine ⟨_, rfl, ?_⟩
        refine WL.dOp ?_
        refine WL.lit (E := intE) (ys := []) .nil rfl rfl rfl (fun x hx => ?_)
        refine WL.nil ?_
        exact hany _ _ _ _ (hsub _ _ _ _ _ _ _ (by decide +kernel) (by repeat (first | exact trivial | refine ⟨rfl, ?_⟩)) (fun _ h => h.sel (by repeat (first | exact Sel.nil | apply Sel.cons (by repeat (first | exact Del.here | apply Del.there))))) (S0_024 a0 a2 x ha0 ha2 hx))
    have S0_03 : ∀ (a0 a3 : Value), a0.oneCell' = true → a3.oneCell' = true → W 10 #[true, true, true, false, false, true, true, false, false, true, true, false, true, true, true, true, true, false, false, true, true, false, false, false] ([(3, a0), (17, a3)] ++ [(5, h.l), (9, h.p), (13, h.d), (16, .int .i64 c), (19, h.n), (23, h.s), (2, .pointer (some ⟨b2, 0, none⟩))]) [own entE 4 a0 118 [], own intE 1 a3 3 [], blk b2 62 [.slice none 0 0, .slice none 0 0, .slice none 0 0, .int .i64 0, .slice none 0 0, .slice none 0 0], blk b1 62 (houE h c)] := by
      intro a0 a3 ha0 ha3
      apply hto
      refine WH.step [3, 4, 8, 18] (by repeat (first | exact List.nil_sublist _ | exact List.Sublist.refl _ | apply List.Sublist.cons_cons | apply List.Sublist.cons)) (by decide +kernel) (by decide) ?_
      intro j hj
      simp only [List.mem_cons, List.not_mem_nil, or_false] at hj
      rcases hj with rfl | rfl | rfl | rfl
      · refine ⟨_, rfl, ?_⟩
        refine WL.dCall ?_
        refine WL.apX (us := m.log) rfl rfl hs0 (by simp; omega) rfl rfl (fun x hx => ?_)
        refine WL.nil ?_
        exact hany _ _ _ _ (hsub _ _ _ _ _ _ _ (by decide +kernel) (by repeat (first | exact trivial | refine ⟨rfl, ?_⟩)) (fun _ h => h.sel (by repeat (first | exact Sel.nil | apply Sel.cons (by repeat (first | exact Del.here | apply Del.there))))) (S1_3 x a3 hx ha3))
      · refine ⟨_, rfl, ?_⟩
        refine WL.dOp ?_
        refine WL.lit (E := intE) (ys := []) .nil rfl rfl rfl (fun x hx => ?_)
        refine WL.nil ?_
        exact hany _ _ _ _ (hsub _ _ _ _ _ _ _ (by decide +kernel) (by repeat (first | exact trivial | refine ⟨rfl, ?_⟩)) (fun _ h => h.sel (by repeat (first | exact Sel.nil | apply Sel.cons (by repeat (first | exact Del.here | apply Del.there))))) (S0_013 a0 x a3 ha0 hx ha3))
      · refine ⟨_, rfl, ?_⟩
        refine WL.dOp ?_
        refine WL.lit (E := dealE) (ys := []) .nil rfl rfl rfl (fun x hx => ?_)
        refine WL.nil ?_
        exact hany _ _ _ _ (hsub _ _ _ _ _ _ _ (by decide +kernel) (by repeat (first | exact trivial | refine ⟨rfl, ?_⟩)) (fun _ h => h.sel (by repeat (first | exact Sel.nil | apply Sel.cons (by repeat (first | exact Del.here | apply Del.there))))) (S0_023 a0 x a3 ha0 hx ha3))
      · refine ⟨_, rfl, ?_⟩
        refine WL.dOp ?_
        refine WL.lit (E := intE) (ys := []) .nil rfl rfl rfl (fun x hx => ?_)
        refine WL.nil ?_
        exact hany _ _ _ _ (hsub _ _ _ _ _ _ _ (by decide +kernel) (by repeat (first | exact trivial | refine ⟨rfl, ?_⟩)) (fun _ h => h.sel (by repeat (first | exact Sel.nil | apply Sel.cons (by repeat (first | exact Del.here | apply Del.there))))) (S0_034 a0 a3 x ha0 ha3 hx))
    have S0_04 : ∀ (a0 a4 : Value), a0.oneCell' = true → a4.oneCell' = true → W 10 #[true, true, true, false, false, true, true, false, false, true, true, false, true, true, false, true, true, false, true, true, true, false, false, false] ([(3, a0), (21, a4)] ++ [(5, h.l), (9, h.p), (13, h.d), (16, .int .i64 c), (19, h.n), (23, h.s), (2, .pointer (some ⟨b2, 0, none⟩))]) [own entE 4 a0 118 [], own intE 1 a4 3 [], blk b2 62 [.slice none 0 0, .slice none 0 0, .slice none 0 0, .int .i64 0, .slice none 0 0, .slice none 0 0], blk b1 62 (houE h c)] := by
      intro a0 a4 ha0 ha4
      apply hto
      refine WH.step [3, 4, 8, 14] (by repeat (first | exact List.nil_sublist _ | exact List.Sublist.refl _ | apply List.Sublist.cons_cons | apply List.Sublist.cons)) (by decide +kernel) (by decide) ?_
      intro j hj
      simp only [List.mem_cons, List.not_mem_nil, or_false] at hj
      rcases hj with rfl | rfl | rfl | rfl
      · refine ⟨_, rfl, ?_⟩
        refine WL.dCall ?_
        refine WL.apX (us := m.log) rfl rfl hs0 (by simp; omega) rfl rfl (fun x hx => ?_)
        refine WL.nil ?_
        exact hany _ _ _ _ (hsub _ _ _ _ _ _ _ (by decide +kernel) (by repeat (first | exact trivial | refine ⟨rfl, ?_⟩)) (fun _ h => h.sel (by repeat (first | exact Sel.nil | apply Sel.cons (by repeat (first | exact Del.here | apply Del.there))))) (S1_4 x a4 hx ha4))
      · refine ⟨_, rfl, ?_⟩
        refine WL.dOp ?_
        refine WL.lit (E := intE) (ys := []) .nil rfl rfl rfl (fun x hx => ?_)
        refine WL.nil ?_
        exact hany _ _ _ _ (hsub _ _ _ _ _ _ _ (by decide +kernel) (by repeat (first | exact trivial | refine ⟨rfl, ?_⟩)) (fun _ h => h.sel (by repeat (first | exact Sel.nil | apply Sel.cons (by repeat (first | exact Del.here | apply Del.there))))) (S0_014 a0 x a4 ha0 hx ha4))
      · refine ⟨_, rfl, ?_⟩
        refine WL.dOp ?_
        refine WL.lit (E := dealE) (ys := []) .nil rfl rfl rfl (fun x hx => ?_)
        refine WL.nil ?_
        exact hany _ _ _ _ (hsub _ _ _ _ _ _ _ (by decide +kernel) (by repeat (first | exact trivial | refine ⟨rfl, ?_⟩)) (fun _ h => h.sel (by repeat (first | exact Sel.nil | apply Sel.cons (by repeat (first | exact Del.here | apply Del.there))))) (S0_024 a0 x a4 ha0 hx ha4))
      · refine ⟨_, rfl, ?_⟩
        refine WL.dOp ?_
        refine WL.lit (E := intE) (ys := []) .nil rfl rfl rfl (fun x hx => ?_)
        refine WL.nil ?_
        exact hany _ _ _ _ (hsub _ _ _ _ _ _ _ (by decide +kernel) (by repeat (first | exact trivial | refine ⟨rfl, ?_⟩)) (fun _ h => h.sel (by repeat (first | exact Sel.nil | apply Sel.cons (by repeat (first | exact Del.here | apply Del.there))))) (S0_034 a0 x a4 ha0 hx ha4))
    have S0_12 : ∀ (a1 a2 : Value), a1.oneCell' = true → a2.oneCell' = true → W 10 #[false, true, true, false, true, true, true, false, true, true, true, false, true, true, false, true, true, false, false, true, true, false, false, false] ([(7, a1), (11, a2)] ++ [(5, h.l), (9, h.p), (13, h.d), (16, .int .i64 c), (19, h.n), (23, h.s), (2, .pointer (some ⟨b2, 0, none⟩))]) [own intE 1 a1 3 [], own dealE 5 a2 70 [], blk b2 62 [.slice none 0 0, .slice none 0 0, .slice none 0 0, .int .i64 0, .slice none 0 0, .slice none 0 0], blk b1 62 (houE h c)] := by
      intro a1 a2 ha1 ha2
      apply hto
      refine WH.step [0, 14, 18] (by repeat (first | exact List.nil_sublist _ | exact List.Sublist.refl _ | apply List.Sublist.cons_cons | apply List.Sublist.cons)) (by decide +kernel) (by decide) ?_
      intro j hj
      simp only [List.mem_cons, List.not_mem_nil, or_false] at hj
      rcases hj with rfl | rfl | rfl
      · refine ⟨_, rfl, ?_⟩
        refine WL.dOp ?_
        refine WL.lit (E := entE) (ys := []) .nil rfl rfl rfl (fun x hx => ?_)
        refine WL.nil ?_
        exact hany _ _ _ _ (hsub _ _ _ _ _ _ _ (by decide +kernel) (by repeat (first | exact trivial | refine ⟨rfl, ?_⟩)) (fun _ h => h.sel (by repeat (first | exact Sel.nil | apply Sel.cons (by repeat (first | exact Del.here | apply Del.there))))) (S0_012 x a1 a2 hx ha1 ha2))
      · refine ⟨_, rfl, ?_⟩
        refine WL.dOp ?_
        refine WL.lit (E := intE) (ys := []) .nil rfl rfl rfl (fun x hx => ?_)
        refine WL.nil ?_
        exact hany _ _ _ _ (hsub _ _ _ _ _ _ _ (by decide +kernel) (by repeat (first | exact trivial | refine ⟨rfl, ?_⟩)) (fun _ h => h.sel (by repeat (first | exact Sel.nil | apply Sel.cons (by repeat (first | exact Del.here | apply Del.there))))) (S0_123 a1 a2 x ha1 ha2 hx))
      · refine ⟨_, rfl, ?_⟩
        refine WL.dOp ?_
        refine WL.lit (E := intE) (ys := []) .nil rfl rfl rfl (fun x hx => ?_)
        refine WL.nil ?_
        exact hany _ _ _ _ (hsub _ _ _ _ _ _ _ (by decide +kernel) (by repeat (first | exact trivial | refine ⟨rfl, ?_⟩)) (fun _ h => h.sel (by repeat (first | exact Sel.nil | apply Sel.cons (by repeat (first | exact Del.here | apply Del.there))))) (S0_124 a1 a2 x ha1 ha2 hx))
    have S0_13 : ∀ (a1 a3 : Value), a1.oneCell' = true → a3.oneCell' = true → W 10 #[false, true, true, false, true, true, true, false, false, true, true, false, true, true, true, true, true, false, false, true, true, false, false, false] ([(7, a1), (17, a3)] ++ [(5, h.l), (9, h.p), (13, h.d), (16, .int .i64 c), (19, h.n), (23, h.s), (2, .pointer (some ⟨b2, 0, none⟩))]) [own intE 1 a1 3 [], own intE 1 a3 3 [], blk b2 62 [.slice none 0 0, .slice none 0 0, .slice none 0 0, .int .i64 0, .slice none 0 0, .slice none 0 0], blk b1 62 (houE h c)] := by
      intro a1 a3 ha1 ha3
      apply hto
      refine WH.step [0, 8, 18] (by repeat (first | exact List.nil_sublist _ | exact List.Sublist.refl _ | apply List.Sublist.cons_cons | apply List.Sublist.cons)) (by decide +kernel) (by decide) ?_
      intro j hj
      simp only [List.mem_cons, List.not_mem_nil, or_false] at hj
      rcases hj with rfl | rfl | rfl
      · refine ⟨_, rfl, ?_⟩
        refine WL.dOp ?_
        refine WL.lit (E := entE) (ys := []) .nil rfl rfl rfl (fun x hx => ?_)
        refine WL.nil ?_
        exact hany _ _ _ _ (hsub _ _ _ _ _ _ _ (by decide +kernel) (by repeat (first | exact trivial | refine ⟨rfl, ?_⟩)) (fun _ h => h.sel (by repeat (first | exact Sel.nil | apply Sel.cons (by repeat (first | exact Del.here | apply Del.there))))) (S0_013 x a1 a3 hx ha1 ha3))
      · refine ⟨_, rfl, ?_⟩
        refine WL.dOp ?_
        refine WL.lit (E := dealE) (ys := []) .nil rfl rfl rfl (fun x hx => ?_)
        refine WL.nil ?_
        exact hany _ _ _ _ (hsub _ _ _ _ _ _ _ (by decide +kernel) (by repeat (first | exact trivial | refine ⟨rfl, ?_⟩)) (fun _ h => h.sel (by repeat (first | exact Sel.nil | apply Sel.cons (by repeat (first | exact Del.here | apply Del.there))))) (S0_123 a1 x a3 ha1 hx ha3))
      · refine ⟨_, rfl, ?_⟩
        refine WL.dOp ?_
        refine WL.lit (E := intE) (ys := []) .nil rfl rfl rfl (fun x hx => ?_)
        refine WL.nil ?_
        exact hany _ _ _ _ (hsub _ _ _ _ _ _ _ (by decide +kernel) (by repeat (first | exact trivial | refine ⟨rfl, ?_⟩)) (fun _ h => h.sel (by repeat (first | exact Sel.nil | apply Sel.cons (by repeat (first | exact Del.here | apply Del.there))))) (S0_134 a1 a3 x ha1 ha3 hx))
    have S0_14 : ∀ (a1 a4 : Value), a1.oneCell' = true → a4.oneCell' = true → W 10 #[false, true, true, false, true, true, true, false, false, true, true, false, true, true, false, true, true, false, true, true, true, false, false, false] ([(7, a1), (21, a4)] ++ [(5, h.l), (9, h.p), (13, h.d), (16, .int .i64 c), (19, h.n), (23, h.s), (2, .pointer (some ⟨b2, 0, none⟩))]) [own intE 1 a1 3 [], own intE 1 a4 3 [], blk b2 62 [.slice none 0 0, .slice none 0 0, .slice none 0 0, .int .i64 0, .slice none 0 0, .slice none 0 0], blk b1 62 (houE h c)] := by
      intro a1 a4 ha1 ha4
      apply hto
      refine WH.step [0, 8, 14] (by repeat (first | exact List.nil_sublist _ | exact List.Sublist.refl _ | apply List.Sublist.cons_cons | apply List.Sublist.cons)) (by decide +kernel) (by decide) ?_
      intro j hj
      simp only [List.mem_cons, List.not_mem_nil, or_false] at hj
      rcases hj with rfl | rfl | rfl
      · refine ⟨_, rfl, ?_⟩
        refine WL.dOp ?_
        refine WL.lit (E := entE) (ys := []) .nil rfl rfl rfl (fun x hx => ?_)
        refine WL.nil ?_
        exact hany _ _ _ _ (hsub _ _ _ _ _ _ _ (by decide +kernel) (by repeat (first | exact trivial | refine ⟨rfl, ?_⟩)) (fun _ h => h.sel (by repeat (first | exact Sel.nil | apply Sel.cons (by repeat (first | exact Del.here | apply Del.there))))) (S0_014 x a1 a4 hx ha1 ha4))
      · refine ⟨_, rfl, ?_⟩
        refine WL.dOp ?_
        refine WL.lit (E := dealE) (ys := []) .nil rfl rfl rfl (fun x hx => ?_)
        refine WL.nil ?_
        exact hany _ _ _ _ (hsub _ _ _ _ _ _ _ (by decide +kernel) (by repeat (first | exact trivial | refine ⟨rfl, ?_⟩)) (fun _ h => h.sel (by repeat (first | exact Sel.nil | apply Sel.cons (by repeat (first | exact Del.here | apply Del.there))))) (S0_124 a1 x a4 ha1 hx ha4))
      · refine ⟨_, rfl, ?_⟩
        refine WL.dOp ?_
        refine WL.lit (E := intE) (ys := []) .nil rfl rfl rfl (fun x hx => ?_)
        refine WL.nil ?_
        exact hany _ _ _ _ (hsub _ _ _ _ _ _ _ (by decide +kernel) (by repeat (first | exact trivial | refine ⟨rfl, ?_⟩)) (fun _ h => h.sel (by repeat (first | exact Sel.nil | apply Sel.cons (by repeat (first | exact Del.here | apply Del.there))))) (S0_134 a1 x a4 ha1 hx ha4))
    have S0_23 : ∀ (a2 a3 : Value), a2.oneCell' = true → a3.oneCell' = true → W 10 #[false, true, true, false, false, true, true, false, true, true, true, false, true, true, true, true, true, false, false, true, true, false, false, false] ([(11, a2), (17, a3)] ++ [(5, h.l), (9, h.p), (13, h.d), (16, .int .i64 c), (19, h.n), (23, h.s), (2, .pointer (some ⟨b2, 0, none⟩))]) [own dealE 5 a2 70 [], own intE 1 a3 3 [], blk b2 62 [.slice none 0 0, .slice none 0 0, .slice none 0 0, .int .i64 0, .slice none 0 0, .slice none 0 0], blk b1 62 (houE h c)] := by
      intro a2 a3 ha2 ha3
      apply hto
      refine WH.step [0, 4, 18] (by repeat (first | exact List.nil_sublist _ | exact List.Sublist.refl _ | apply List.Sublist.cons_cons | apply List.Sublist.cons)) (by decide +kernel) (by decide) ?_
      intro j hj
      simp only [List.mem_cons, List.not_mem_nil, or_false] at hj
      rcases hj with rfl | rfl | rfl
      · refine ⟨_, rfl, ?_⟩
        refine WL.dOp ?_
        refine WL.lit (E := entE) (ys := []) .nil rfl rfl rfl (fun x hx => ?_)
        refine WL.nil ?_
        exact hany _ _ _ _ (hsub _ _ _ _ _ _ _ (by decide +kernel) (by repeat (first | exact trivial | refine ⟨rfl, ?_⟩)) (fun _ h => h.sel (by repeat (first | exact Sel.nil | apply Sel.cons (by repeat (first | exact Del.here | apply Del.there))))) (S0_023 x a2 a3 hx ha2 ha3))
      · refine ⟨_, rfl, ?_⟩
        refine WL.dOp ?_
        refine WL.lit (E := intE) (ys := []) .nil rfl rfl rfl (fun x hx => ?_)
        refine WL.nil ?_
        exact hany _ _ _ _ (hsub _ _ _ _ _ _ _ (by decide +kernel) (by repeat (first | exact trivial | refine ⟨rfl, ?_⟩)) (fun _ h => h.sel (by repeat (first | exact Sel.nil | apply Sel.cons (by repeat (first | exact Del.here | apply Del.there))))) (S0_123 x a2 a3 hx ha2 ha3))
      · refine ⟨_, rfl, ?_⟩
        refine WL.dOp ?_
        refine WL.lit (E := intE) (ys := []) .nil rfl rfl rfl (fun x hx => ?_)
        refine WL.nil ?_
        exact hany _ _ _ _ (hsub _ _ _ _ _ _ _ (by decide +kernel) (by repeat (first | exact trivial | refine ⟨rfl, ?_⟩)) (fun _ h => h.sel (by repeat (first | exact Sel.nil | apply Sel.cons (by repeat (first | exact Del.here | apply Del.there))))) (S0_234 a2 a3 x ha2 ha3 hx))
    have S0_24 : ∀ (a2 a4 : Value), a2.oneCell' = true → a4.oneCell' = true → W 10 #[false, true, true, false, false, true, true, false, true, true, true, false, true, true, false, true, true, false, true, true, true, false, false, false] ([(11, a2), (21, a4)] ++ [(5, h.l), (9, h.p), (13, h.d), (16, .int .i64 c), (19, h.n), (23, h.s), (2, .pointer (some ⟨b2, 0, none⟩))]) [own dealE 5 a2 70 [], own intE 1 a4 3 [], blk b2 62 [.slice none 0 0, .slice none 0 0, .slice none 0 0, .int .i64 0, .slice none 0 0, .slice none 0 0], blk b1 62 (houE h c)] := by
      intro a2 a4 ha2 ha4
      apply hto
      refine WH.step [0, 4, 14] (by repeat (first | exact List.nil_sublist _ | exact List.Sublist.refl _ | apply List.Sublist.cons_cons | apply List.Sublist.cons)) (by decide +kernel) (by decide) ?_
      intro j hj
      simp only [List.mem_cons, List.not_mem_nil, or_false] at hj
      rcases hj with rfl | rfl | rfl
      · refine ⟨_, rfl, ?_⟩
        refine WL.dOp ?_
        refine WL.lit (E := entE) (ys := []) .nil rfl rfl rfl (fun x hx => ?_)
        refine WL.nil ?_
        exact hany _ _ _ _ (hsub _ _ _ _ _ _ _ (by decide +kernel) (by repeat (first | exact trivial | refine ⟨rfl, ?_⟩)) (fun _ h => h.sel (by repeat (first | exact Sel.nil | apply Sel.cons (by repeat (first | exact Del.here | apply Del.there))))) (S0_024 x a2 a4 hx ha2 ha4))
      · refine ⟨_, rfl, ?_⟩
        refine WL.dOp ?_
        refine WL.lit (E := intE) (ys := []) .nil rfl rfl rfl (fun x hx => ?_)
        refine WL.nil ?_
        exact hany _ _ _ _ (hsub _ _ _ _ _ _ _ (by decide +kernel) (by repeat (first | exact trivial | refine ⟨rfl, ?_⟩)) (fun _ h => h.sel (by repeat (first | exact Sel.nil | apply Sel.cons (by repeat (first | exact Del.here | apply Del.there))))) (S0_124 x a2 a4 hx ha2 ha4))
      · refine ⟨_, rfl, ?_⟩
        refine WL.dOp ?_
        refine WL.lit (E := intE) (ys := []) .nil rfl rfl rfl (fun x hx => ?_)
        refine WL.nil ?_
        exact hany _ _ _ _ (hsub _ _ _ _ _ _ _ (by decide +kernel) (by repeat (first | exact trivial | refine ⟨rfl, ?_⟩)) (fun _ h => h.sel (by repeat (first | exact Sel.nil | apply Sel.cons (by repeat (first | exact Del.here | apply Del.there))))) (S0_234 a2 x a4 ha2 hx ha4))
    have S0_34 : ∀ (a3 a4 : Value), a3.oneCell' = true → a4.oneCell' = true → W 10 #[false, true, true, false, false, true, true, false, false, true, true, false, true, true, true, true, true, false, true, true, true, false, false, false] ([(17, a3), (21, a4)] ++ [(5, h.l), (9, h.p), (13, h.d), (16, .int .i64 c), (19, h.n), (23, h.s), (2, .pointer (some ⟨b2, 0, none⟩))]) [own intE 1 a3 3 [], own intE 1 a4 3 [], blk b2 62 [.slice none 0 0, .slice none 0 0, .slice none 0 0, .int .i64 0, .slice none 0 0, .slice none 0 0], blk b1 62 (houE h c)] := by
      intro a3 a4 ha3 ha4
      apply hto
      refine WH.step [0, 4, 8] (by repeat (first | exact List.nil_sublist _ | exact List.Sublist.refl _ | apply List.Sublist.cons_cons | apply List.Sublist.cons)) (by decide +kernel) (by decide) ?_
      intro j hj
      simp only [List.mem_cons, List.not_mem_nil, or_false] at hj
      rcases hj with rfl | rfl | rfl
      · refine ⟨_, rfl, ?_⟩
        refine WL.dOp ?_
        refine WL.lit (E := entE) (ys := []) .nil rfl rfl rfl (fun x hx => ?_)
        refine WL.nil ?_
        exact hany _ _ _ _ (hsub _ _ _ _ _ _ _ (by decide +kernel) (by repeat (first | exact trivial | refine ⟨rfl, ?_⟩)) (fun _ h => h.sel (by repeat (first | exact Sel.nil | apply Sel.cons (by repeat (first | exact Del.here | apply Del.there))))) (S0_034 x a3 a4 hx ha3 ha4))
      · refine ⟨_, rfl, ?_⟩
        refine WL.dOp ?_
        refine WL.lit (E := intE) (ys := []) .nil rfl rfl rfl (fun x hx => ?_)
        refine WL.nil ?_
        exact hany _ _ _ _ (hsub _ _ _ _ _ _ _ (by decide +kernel) (by repeat (first | exact trivial | refine ⟨rfl, ?_⟩)) (fun _ h => h.sel (by repeat (first | exact Sel.nil | apply Sel.cons (by repeat (first | exact Del.here | apply Del.there))))) (S0_134 x a3 a4 hx ha3 ha4))
      · refine ⟨_, rfl, ?_⟩
        refine WL.dOp ?_
        refine WL.lit (E := dealE) (ys := []) .nil rfl rfl rfl (fun x hx => ?_)
        refine WL.nil ?_
        exact hany _ _ _ _ (hsub _ _ _ _ _ _ _ (by decide +kernel) (by repeat (first | exact trivial | refine ⟨rfl, ?_⟩)) (fun _ h => h.sel (by repeat (first | exact Sel.nil | apply Sel.cons (by repeat (first | exact Del.here | apply Del.there))))) (S0_234 x a3 a4 hx ha3 ha4))
    have S0_0 : ∀ (a0 : Value), a0.oneCell' = true → W 11 #[true, true, true, false, false, true, true, false, false, true, true, false, true, true, false, true, true, false, false, true, true, false, false, false] ([(3, a0)] ++ [(5, h.l), (9, h.p), (13, h.d), (16, .int .i64 c), (19, h.n), (23, h.s), (2, .pointer (some ⟨b2, 0, none⟩))]) [own entE 4 a0 118 [], blk b2 62 [.slice none 0 0, .slice none 0 0, .slice none 0 0, .int .i64 0, .slice none 0 0, .slice none 0 0], blk b1 62 (houE h c)] := by
      intro a0 ha0
      apply hto
      refine WH.step [3, 4, 8, 14, 18] (by repeat (first | exact List.nil_sublist _ | exact List.Sublist.refl _ | apply List.Sublist.cons_cons | apply List.Sublist.cons)) (by decide +kernel) (by decide) ?_
      intro j hj
      simp only [List.mem_cons, List.not_mem_nil, or_false] at hj
      rcases hj with rfl | rfl | rfl | rfl | rfl
      · refine ⟨_, rfl, ?_⟩
        refine WL.dCall ?_
        refine WL.apX (us := m.log) rfl rfl hs0 (by simp; omega) rfl rfl (fun x hx => ?_)
        refine WL.nil ?_
        exact hany _ _ _ _ (hsub _ _ _ _ _ _ _ (by decide +kernel) (by repeat (first | exact trivial | refine ⟨rfl, ?_⟩)) (fun _ h => h.sel (by repeat (first | exact Sel.nil | apply Sel.cons (by repeat (first | exact Del.here | apply Del.there))))) (S1_ x hx))
      · refine ⟨_, rfl, ?_⟩
        refine WL.dOp ?_
        refine WL.lit (E := intE) (ys := []) .nil rfl rfl rfl (fun x hx => ?_)
        refine WL.nil ?_
        exact hany _ _ _ _ (hsub _ _ _ _ _ _ _ (by decide +kernel) (by repeat (first | exact trivial | refine ⟨rfl, ?_⟩)) (fun _ h => h.sel (by repeat (first | exact Sel.nil | apply Sel.cons (by repeat (first | exact Del.here | apply Del.there))))) (S0_01 a0 x ha0 hx))
      · refine ⟨_, rfl, ?_⟩
        refine WL.dOp ?_
        refine WL.lit (E := dealE) (ys := []) .nil rfl rfl rfl (fun x hx => ?_)
        refine WL.nil ?_
        exact hany _ _ _ _ (hsub _ _ _ _ _ _ _ (by decide +kernel) (by repeat (first | exact trivial | refine ⟨rfl, ?_⟩)) (fun _ h => h.sel (by repeat (first | exact Sel.nil | apply Sel.cons (by repeat (first | exact Del.here | apply Del.there))))) (S0_02 a0 x ha0 hx))
      · refine ⟨_, rfl, ?_⟩
        refine WL.dOp ?_
        refine WL.lit (E := intE) (ys := []) .nil rfl rfl rfl (fun x hx => ?_)
        refine WL.nil ?_
        exact hany _ _ _ _ (hsub _ _ _ _ _ _ _ (by decide +kernel) (by repeat (first | exact trivial | refine ⟨rfl, ?_⟩)) (fun _ h => h.sel (by repeat (first | exact Sel.nil | apply Sel.cons (by repeat (first | exact Del.here | apply Del.there))))) (S0_03 a0 x ha0 hx))
      · refine ⟨_, rfl, ?_⟩
        refine WL.dOp ?_
        refine WL.lit (E := intE) (ys := []) .nil rfl rfl rfl (fun x hx => ?_)
        refine WL.nil ?_
        exact hany _ _ _ _ (hsub _ _ _ _ _ _ _ (by decide +kernel) (by repeat (first | exact trivial | refine ⟨rfl, ?_⟩)) (fun _ h => h.sel (by repeat (first | exact Sel.nil | apply Sel.cons (by repeat (first | exact Del.here | apply Del.there))))) (S0_04 a0 x ha0 hx))
    have S0_1 : ∀ (a1 : Value), a1.oneCell' = true → W 11 #[false, true, true, false, true, true, true, false, false, true, true, false, true, true, false, true, true, false, false, true, true, false, false, false] ([(7, a1)] ++ [(5, h.l), (9, h.p), (13, h.d), (16, .int .i64 c), (19, h.n), (23, h.s), (2, .pointer (some ⟨b2, 0, none⟩))]) [own intE 1 a1 3 [], blk b2 62 [.slice none 0 0, .slice none 0 0, .slice none 0 0, .int .i64 0, .slice none 0 0, .slice none 0 0], blk b1 62 (houE h c)] := by
      intro a1 ha1
      apply hto
      refine WH.step [0, 8, 14, 18] (by repeat (first | exact List.nil_sublist _ | exact List.Sublist.refl _ | apply List.Sublist.cons_cons | apply List.Sublist.cons)) (by decide +kernel) (by decide) ?_
      intro j hj
      simp only [List.mem_cons, List.not_mem_nil, or_false] at hj
      rcases hj with rfl | rfl | rfl | rfl
      · refine ⟨_, rfl, ?_⟩
        refine WL.dOp ?_
        refine WL.lit (E := entE) (ys := []) .nil rfl rfl rfl (fun x hx => ?_)
        refine WL.nil ?_
        exact hany _ _ _ _ (hsub _ _ _ _ _ _ _ (by decide +kernel) (by repeat (first | exact trivial | refine ⟨rfl, ?_⟩)) (fun _ h => h.sel (by repeat (first | exact Sel.nil | apply Sel.cons (by repeat (first | exact Del.here | apply Del.there))))) (S0_01 x a1 hx ha1))
      · refine ⟨_, rfl, ?_⟩
        refine WL.dOp ?_
        refine WL.lit (E := dealE) (ys := []) .nil rfl rfl rfl (fun x hx => ?_)
        refine WL.nil ?_
        exact hany _ _ _ _ (hsub _ _ _ _ _ _ _ (by decide +kernel) (by repeat (first | exact trivial | refine ⟨rfl, ?_⟩)) (fun _ h => h.sel (by repeat (first | exact Sel.nil | apply Sel.cons (by repeat (first | exact Del.here | apply Del.there))))) (S0_12 a1 x ha1 hx))
      · refine ⟨_, rfl, ?_⟩
        refine WL.dOp ?_
        refine WL.lit (E := intE) (ys := []) .nil rfl rfl rfl (fun x hx => ?_)
        refine WL.nil ?_
        exact hany _ _ _ _ (hsub _ _ _ _ _ _ _ (by decide +kernel) (by repeat (first | exact trivial | refine ⟨rfl, ?_⟩)) (fun _ h => h.sel (by repeat (first | exact Sel.nil | apply Sel.cons (by repeat (first | exact Del.here | apply Del.there))))) (S0_13 a1 x ha1 hx))
      · refine ⟨_, rfl, ?_⟩
        refine WL.dOp ?_
        refine WL.lit (E := intE) (ys := []) .nil rfl rfl rfl (fun x hx => ?_)
        refine WL.nil ?_
        exact hany _ _ _ _ (hsub _ _ _ _ _ _ _ (by decide +kernel) (by repeat (first | exact trivial | refine ⟨rfl, ?_⟩)) (fun _ h => h.sel (by repeat (first | exact Sel.nil | apply Sel.cons (by repeat (first | exact Del.here | apply Del.there))))) (S0_14 a1 x ha1 hx))
    have S0_2 : ∀ (a2 : Value), a2.oneCell' = true → W 11 #[false, true, true, false, false, true, true, false, true, true, true, false, true, true, false, true, true, false, false, true, true, false, false, false] ([(11, a2)] ++ [(5, h.l), (9, h.p), (13, h.d), (16, .int .i64 c), (19, h.n), (23, h.s), (2, .pointer (some ⟨b2, 0, none⟩))]) [own dealE 5 a2 70 [], blk b2 62 [.slice none 0 0, .slice none 0 0, .slice none 0 0, .int .i64 0, .slice none 0 0, .slice none 0 0], blk b1 62 (houE h c)] := by
      intro a2 ha2
      apply hto
      refine WH.step [0, 4, 14, 18] (by repeat (first | exact List.nil_sublist _ | exact List.Sublist.refl _ | apply List.Sublist.cons_cons | apply List.Sublist.cons)) (by decide +kernel) (by decide) ?_
      intro j hj
      simp only [List.mem_cons, List.not_mem_nil, or_false] at hj
      rcases hj with rfl | rfl | rfl | rfl
      · refine ⟨_, rfl, ?_⟩
        refine WL.dOp ?_
        refine WL.lit (E := entE) (ys := []) .nil rfl rfl rfl (fun x hx => ?_)
        refine WL.nil ?_
        exact hany _ _ _ _ (hsub _ _ _ _ _ _ _ (by decide +kernel) (by repeat (first | exact trivial | refine ⟨rfl, ?_⟩)) (fun _ h => h.sel (by repeat (first | exact Sel.nil | apply Sel.cons (by repeat (first | exact Del.here | apply Del.there))))) (S0_02 x a2 hx ha2))
      · refine ⟨_, rfl, ?_⟩
        refine WL.dOp ?_
        refine WL.lit (E := intE) (ys := []) .nil rfl rfl rfl (fun x hx => ?_)
        refine WL.nil ?_
        exact hany _ _ _ _ (hsub _ _ _ _ _ _ _ (by decide +kernel) (by repeat (first | exact trivial | refine ⟨rfl, ?_⟩)) (fun _ h => h.sel (by repeat (first | exact Sel.nil | apply Sel.cons (by repeat (first | exact Del.here | apply Del.there))))) (S0_12 x a2 hx ha2))
      · refine ⟨_, rfl, ?_⟩
        refine WL.dOp ?_
        refine WL.lit (E := intE) (ys := []) .nil rfl rfl rfl (fun x hx => ?_)
        refine WL.nil ?_
        exact hany _ _ _ _ (hsub _ _ _ _ _ _ _ (by decide +kernel) (by repeat (first | exact trivial | refine ⟨rfl, ?_⟩)) (fun _ h => h.sel (by repeat (first | exact Sel.nil | apply Sel.cons (by repeat (first | exact Del.here | apply Del.there))))) (S0_23 a2 x ha2 hx))
      · refine ⟨_, rfl, ?_⟩
        refine WL.dOp ?_
        refine WL.lit (E := intE) (ys := []) .nil rfl rfl rfl (fun x hx => ?_)
        refine WL.nil ?_
        exact hany _ _ _ _ (hsub _ _ _ _ _ _ _ (by decide +kernel) (by repeat (first | exact trivial | refine ⟨rfl, ?_⟩)) (fun _ h => h.sel (by repeat (first | exact Sel.nil | apply Sel.cons (by repeat (first | exact Del.here | apply Del.there))))) (S0_24 a2 x ha2 hx))
    have S0_3 : ∀ (a3 : Value), a3.oneCell' = true → W 11 #[false, true, true, false, false, true, true, false, false, true, true, false, true, true, true, true, true, false, false, true, true, false, false, false] ([(17, a3)] ++ [(5, h.l), (9, h.p), (13, h.d), (16, .int .i64 c), (19, h.n), (23, h.s), (2, .pointer (some ⟨b2, 0, none⟩))]) [own intE 1 a3 3 [], blk b2 62 [.slice none 0 0, .slice none 0 0, .slice none 0 0, .int .i64 0, .slice none 0 0, .slice none 0 0], blk b1 62 (houE h c)] := by
      intro a3 ha3
      apply hto
      refine WH.step [0, 4, 8, 18] (by repeat (first | exact List.nil_sublist _ | exact List.Sublist.refl _ | apply List.Sublist.cons_cons | apply List.Sublist.cons)) (by decide +kernel) (by decide) ?_
      intro j hj
      simp only [List.mem_cons, List.not_mem_nil, or_false] at hj
      rcases hj with rfl | rfl | rfl | rfl
      · refine ⟨_, rfl, ?_⟩
        refine WL.dOp ?_
        refine WL.lit (E := entE) (ys := []) .nil rfl rfl rfl (fun x hx => ?_)
        refine WL.nil ?_
        exact hany _ _ _ _ (hsub _ _ _ _ _ _ _ (by decide +kernel) (by repeat (first | exact trivial | refine ⟨rfl, ?_⟩)) (fun _ h => h.sel (by repeat (first | exact Sel.nil | apply Sel.cons (by repeat (first | exact Del.here | apply Del.there))))) (S0_03 x a3 hx ha3))
      · refine ⟨_, rfl, ?_⟩
        refine WL.dOp ?_
        refine WL.lit (E := intE) (ys := []) .nil rfl rfl rfl (fun x hx => ?_)
        refine WL.nil ?_
        exact hany _ _ _ _ (hsub _ _ _ _ _ _ _ (by decide +kernel) (by repeat (first | exact trivial | refine ⟨rfl, ?_⟩)) (fun _ h => h.sel (by repeat (first | exact Sel.nil | apply Sel.cons (by repeat (first | exact Del.here | apply Del.there))))) (S0_13 x a3 hx ha3))
      · refine ⟨_, rfl, ?_⟩
        refine WL.dOp ?_
        refine WL.lit (E := dealE) (ys := []) .nil rfl rfl rfl (fun x hx => ?_)
        refine WL.nil ?_
        exact hany _ _ _ _ (hsub _ _ _ _ _ _ _ (by decide +kernel) (by repeat (first | exact trivial | refine ⟨rfl, ?_⟩)) (fun _ h => h.sel (by repeat (first | exact Sel.nil | apply Sel.cons (by repeat (first | exact Del.here | apply Del.there))))) (S0_23 x a3 hx ha3))
      · refine ⟨_, rfl, ?_⟩
        refine WL.dOp ?_
        refine WL.lit (E := intE) (ys := []) .nil rfl rfl rfl (fun x hx => ?_)
        refine WL.nil ?_
        exact hany _ _ _ _ (hsub _ _ _ _ _ _ _ (by decide +kernel) (by repeat (first | exact trivial | refine ⟨rfl, ?_⟩)) (fun _ h => h.sel (by repeat (first | exact Sel.nil | apply Sel.cons (by repeat (first | exact Del.here | apply Del.there))))) (S0_34 a3 x ha3 hx))
    have S0_4 : ∀ (a4 : Value), a4.oneCell' = true → W 11 #[false, true, true, false, false, true, true, false, false, true, true, false, true, true, false, true, true, false, true, true, true, false, false, false] ([(21, a4)] ++ [(5, h.l), (9, h.p), (13, h.d), (16, .int .i64 c), (19, h.n), (23, h.s), (2, .pointer (some ⟨b2, 0, none⟩))]) [own intE 1 a4 3 [], blk b2 62 [.slice none 0 0, .slice none 0 0, .slice none 0 0, .int .i64 0, .slice none 0 0, .slice none 0 0], blk b1 62 (houE h c)] := by
      intro a4 ha4
      apply hto
      refine WH.step [0, 4, 8, 14] (by repeat (first | exact List.nil_sublist _ | exact List.Sublist.refl _ | apply List.Sublist.cons_cons | apply List.Sublist.cons)) (by decide +kernel) (by decide) ?_
      intro j hj
      simp only [List.mem_cons, List.not_mem_nil, or_false] at hj
      rcases hj with rfl | rfl | rfl | rfl
      · refine ⟨_, rfl, ?_⟩
        refine WL.dOp ?_
        refine WL.lit (E := entE) (ys := []) .nil rfl rfl rfl (fun x hx => ?_)
        refine WL.nil ?_
        exact hany _ _ _ _ (hsub _ _ _ _ _ _ _ (by decide +kernel) (by repeat (first | exact trivial | refine ⟨rfl, ?_⟩)) (fun _ h => h.sel (by repeat (first | exact Sel.nil | apply Sel.cons (by repeat (first | exact Del.here | apply Del.there))))) (S0_04 x a4 hx ha4))
      · refine ⟨_, rfl, ?_⟩
        refine WL.dOp ?_
        refine WL.lit (E := intE) (ys := []) .nil rfl rfl rfl (fun x hx => ?_)
        refine WL.nil ?_
        exact hany _ _ _ _ (hsub _ _ _ _ _ _ _ (by decide +kernel) (by repeat (first | exact trivial | refine ⟨rfl, ?_⟩)) (fun _ h => h.sel (by repeat (first | exact Sel.nil | apply Sel.cons (by repeat (first | exact Del.here | apply Del.there))))) (S0_14 x a4 hx ha4))
      · refine ⟨_, rfl, ?_⟩
        refine WL.dOp ?_
        refine WL.lit (E := dealE) (ys := []) .nil rfl rfl rfl (fun x hx => ?_)
        refine WL.nil ?_
        exact hany _ _ _ _ (hsub _ _ _ _ _ _ _ (by decide +kernel) (by repeat (first | exact trivial | refine ⟨rfl, ?_⟩)) (fun _ h => h.sel (by repeat (first | exact Sel.nil | apply Sel.cons (by repeat (first | exact Del.here | apply Del.there))))) (S0_24 x a4 hx ha4))
      · refine ⟨_, rfl, ?_⟩
        refine WL.dOp ?_
        refine WL.lit (E := intE) (ys := []) .nil rfl rfl rfl (fun x hx => ?_)
        refine WL.nil ?_
        exact hany _ _ _ _ (hsub _ _ _ _ _ _ _ (by decide +kernel) (by repeat (first | exact trivial | refine ⟨rfl, ?_⟩)) (fun _ h => h.sel (by repeat (first | exact Sel.nil | apply Sel.cons (by repeat (first | exact Del.here | apply Del.there))))) (S0_34 x a4 hx ha4))
    have S0_ : W 12 #[false, true, true, false, false, true, true, false, false, true, true, false, true, true, false, true, true, false, false, true, true, false, false, false] ([] ++ [(5, h.l), (9, h.p), (13, h.d), (16, .int .i64 c), (19, h.n), (23, h.s), (2, .pointer (some ⟨b2, 0, none⟩))]) [blk b2 62 [.slice none 0 0, .slice none 0 0, .slice none 0 0, .int .i64 0, .slice none 0 0, .slice none 0 0], blk b1 62 (houE h c)] := by
      apply hto
      refine WH.step [0, 4, 8, 14, 18] (by repeat (first | exact List.nil_sublist _ | exact List.Sublist.refl _ | apply List.Sublist.cons_cons | apply List.Sublist.cons)) (by decide +kernel) (by decide) ?_
      intro j hj
      simp only [List.mem_cons, List.not_mem_nil, or_false] at hj
      rcases hj with rfl | rfl | rfl | rfl | rfl
      · refine ⟨_, rfl, ?_⟩
        refine WL.dOp ?_
        refine WL.lit (E := entE) (ys := []) .nil rfl rfl rfl (fun x hx => ?_)
        refine WL.nil ?_
        exact hany _ _ _ _ (hsub _ _ _ _ _ _ _ (by decide +kernel) (by repeat (first | exact trivial | refine ⟨rfl, ?_⟩)) (fun _ h => h.sel (by repeat (first | exact Sel.nil | apply Sel.cons (by repeat (first | exact Del.here | apply Del.there))))) (S0_0 x hx))
      · refine ⟨_, rfl, ?_⟩
        refine WL.dOp ?_
        refine WL.lit (E := intE) (ys := []) .nil rfl rfl rfl (fun x hx => ?_)
        refine WL.nil ?_
        exact hany _ _ _ _ (hsub _ _ _ _ _ _ _ (by decide +kernel) (by repeat (first | exact trivial | refine ⟨rfl, ?_⟩)) (fun _ h => h.sel (by repeat (first | exact Sel.nil | apply Sel.cons (by repeat (first | exact Del.here | apply Del.there))))) (S0_1 x hx))
      · refine ⟨_, rfl, ?_⟩
        refine WL.dOp ?_
        refine WL.lit (E := dealE) (ys := []) .nil rfl rfl rfl (fun x hx => ?_)
        refine WL.nil ?_
        exact hany _ _ _ _ (hsub _ _ _ _ _ _ _ (by decide +kernel) (by repeat (first | exact trivial | refine ⟨rfl, ?_⟩)) (fun _ h => h.sel (by repeat (first | exact Sel.nil | apply Sel.cons (by repeat (first | exact Del.here | apply Del.there))))) (S0_2 x hx))
      · refine ⟨_, rfl, ?_⟩
        refine WL.dOp ?_
        refine WL.lit (E := intE) (ys := []) .nil rfl rfl rfl (fun x hx => ?_)
        refine WL.nil ?_
        exact hany _ _ _ _ (hsub _ _ _ _ _ _ _ (by decide +kernel) (by repeat (first | exact trivial | refine ⟨rfl, ?_⟩)) (fun _ h => h.sel (by repeat (first | exact Sel.nil | apply Sel.cons (by repeat (first | exact Del.here | apply Del.there))))) (S0_3 x hx))
      · refine ⟨_, rfl, ?_⟩
        refine WL.dOp ?_
        refine WL.lit (E := intE) (ys := []) .nil rfl rfl rfl (fun x hx => ?_)
        refine WL.nil ?_
        exact hany _ _ _ _ (hsub _ _ _ _ _ _ _ (by decide +kernel) (by repeat (first | exact trivial | refine ⟨rfl, ?_⟩)) (fun _ h => h.sel (by repeat (first | exact Sel.nil | apply Sel.cons (by repeat (first | exact Del.here | apply Del.there))))) (S0_4 x hx))
    exact hsub _ _ _ _ _ _ _ (by decide +kernel) (by repeat (first | exact trivial | refine ⟨rfl, ?_⟩)) (fun _ h => h.sel (by repeat (first | exact Sel.nil | apply Sel.cons (by repeat (first | exact Del.here | apply Del.there))))) S0_
  · repeat' (first|(refine WL.dMove ?_;refine WL.move rfl rfl ?_)|(refine WL.dAssign ?_;refine WL.assign rfl rfl ?_)|refine WL.nil ?_|(refine WC.d ?_;refine WC.ret ?_)|(refine WQ.d ?_;refine WQ.then_normal ?_))
    exact WQ.retE rfl (by repeat (first | exact .nil | apply Rets.tmp rfl | apply Rets.cA rfl | apply Rets.c1 rfl rfl)) ⟨u, hu, rfl, fun _ h => h.sel (by repeat (first | exact Sel.nil | apply Sel.cons (by repeat (first | exact Del.here | apply Del.there))))⟩
end Go.Proofs.Ytcmmfamippdgbaa
