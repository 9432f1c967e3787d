/- More rules of the calculus: blocks cut, copied, grown; how much room a slice has. -/
import Derived.Test.YtcmmfamippdgbaaV5
import Derived.Test.YtcmmfamippdgbaaV2
import Derived.Laws.CopyRow
import Derived.Lib.AppendZerosOnto
import Derived.Lib.Overlaps
namespace Go.Proofs.Ytcmmfamippdgbaa.Vc
open Go.RowKit
section
variable {q : Bool} {P : Program} {w0 : World} {X : List Nat} {N : Nat} {ops : Array Oper} {Q : Exit → Act → World → Prop} {rest : List Oper} {fr : Fr} {L : List Res}
variable {d ty : Nat} {ps : String} {af : Array Edge} {α : Type} {E : α → List Value} {sz : Nat}

theorem St.openOwn {w : World} {v : Value} {t : Nat} {ys : List α} (h : St w0 X w (own E sz v t ys :: L)) :
    (v = .slice none 0 0 ∧ ys.flatMap E = [] ∧ ys.length = 0 ∧ St w0 X w L) ∨
    ∃ g c cs, v = .slice (some ⟨g, 0, none⟩) ys.length c ∧ ys.length ≤ c ∧ c ≤ maxLen ∧ cs.length = c * sz ∧ cs.take (ys.length * sz) = ys.flatMap E ∧ St w0 X w (Vc.blk g t cs :: L) := by
  have hr := (own_holds (E := E)).1 (h.res _ (List.mem_cons_self ..))
  rcases hr.2 with ⟨rfl, h2⟩ | ⟨g, c, cur, rfl, hg, hh, hn, hm, hs, ht⟩
  · refine .inl ⟨rfl, ?_, h2, h.sub (List.sublist_cons_self ..)⟩
    have := hr.1
    rw [h2] at this
    exact List.length_eq_zero_iff.1 (by simpa using this)
  · refine .inr ⟨g, c, cur.toList, rfl, hn, hm, by simpa using hs, ht, h.keep, ?_, ?_, ?_⟩
    · intro r hr'
      rcases List.mem_cons.1 hr' with rfl | hr'
      · rw [blk_holds]; simpa using hh
      · exact h.res r (List.mem_cons_of_mem _ hr')
    · have := h.apart
      rw [List.pairwise_cons] at this ⊢
      refine ⟨fun r hr' b hb => this.1 r hr' b ?_, this.2⟩
      rw [own_foot]; rw [blk_foot] at hb; simpa [Value.ownBlock] using hb
    · intro r hr' b hb
      rcases List.mem_cons.1 hr' with rfl | hr'
      · refine h.new _ (List.mem_cons_self ..) b ?_
        rw [own_foot]; rw [blk_foot] at hb; simpa [Value.ownBlock] using hb
      · exact h.new r (List.mem_cons_of_mem _ hr') b hb
theorem St.closeOwn {w : World} {t g n c : Nat} {cs : List Value} {ys : List α} (hn : ys.length = n) (hl : (ys.flatMap E).length = n * sz) (h1 : n ≤ c) (h2 : c ≤ maxLen) (h3 : cs.length = c * sz) (h4 : cs.take (n * sz) = ys.flatMap E) (h : St w0 X w (Vc.blk g t cs :: L)) :
    St w0 X w (own E sz (.slice (some ⟨g, 0, none⟩) n c) t ys :: L) := by
  have hb := blk_holds.1 (h.res _ (List.mem_cons_self ..))
  refine ⟨h.keep, ?_, ?_, ?_⟩
  · intro r hr'
    rcases List.mem_cons.1 hr' with rfl | hr'
    · rw [own_holds]
      subst hn
      exact ⟨hl, .inr ⟨g, c, cs.toArray, rfl, Nat.zero_le _, hb, h1, h2, by simpa using h3, by simpa using h4⟩⟩
    · exact h.res r (List.mem_cons_of_mem _ hr')
  · have := h.apart
    rw [List.pairwise_cons] at this ⊢
    refine ⟨fun r hr' b hb => this.1 r hr' b ?_, this.2⟩
    rw [blk_foot]; rw [own_foot] at hb; simpa [Value.ownBlock] using hb
  · intro r hr' b hb
    rcases List.mem_cons.1 hr' with rfl | hr'
    · refine h.new _ (List.mem_cons_self ..) b ?_
      rw [blk_foot]; rw [own_foot] at hb; simpa [Value.ownBlock] using hb
    · exact h.new r (List.mem_cons_of_mem _ hr') b hb

theorem WL.lenCap {x : Operand} {T e bw n c : Nat} {zs : List Value} {A : Option Addr} [hT : TSlice P T e sz bw zs] (hx : ev fr x = some (.slice A n c)) (hN : Nat.ble (d + 1) N = true) (k : WL q P w0 X N ops Q rest ((d, .int .i64 (c : Int)) :: fr) L) :
    WL q P w0 X N ops Q (⟨some d, .call { callee := .builtin .cap, args := #[x], argTypes := #[T] }, ty, ps, af, none⟩ :: rest) fr L :=
  WL.value rfl rfl hN (fun a w ha _ => by
    obtain ⟨i, z, hu, hi, hz, _⟩ := tslice_parts hT.h
    simp [execOp, resolve, invoke, builtin, ha.ev hx, Builtin.cap_, run_underlying hu, goInt]) k
theorem WL.lenS {x : Operand} {T e bw n c : Nat} {zs : List Value} {A : Option Addr} [hT : TSlice P T e sz bw zs] (hx : ev fr x = some (.slice A n c)) (hN : Nat.ble (d + 1) N = true) (k : WL q P w0 X N ops Q rest ((d, .int .i64 (n : Int)) :: fr) L) :
    WL q P w0 X N ops Q (⟨some d, .call { callee := .builtin .len, args := #[x], argTypes := #[T] }, ty, ps, af, none⟩ :: rest) fr L :=
  WL.value rfl rfl hN (fun a w ha _ => by
    obtain ⟨i, z, hu, hi, hz, _⟩ := tslice_parts hT.h
    simp [execOp, resolve, invoke, builtin, ha.ev hx, Builtin.len_, run_underlying hu, goInt]) k

/-- a slice of a block, cut anew within its room -/
theorem WL.sliceB {x : Operand} {lo hi : Option Operand} {T e bw n c l h : Nat} {zs : List Value} {A : Option Addr} [hT : TSlice P T e sz bw zs] (hx : ev fr x = some (.slice A n c))
    (hr : ∀ a w, As N fr a → (Instr.sliceBounds true n c (lo.map a.eval) (hi.map a.eval) none).run P w = .ok (l, h, c) w) (hN : Nat.ble (d + 1) N = true)
    (k : WL q P w0 X N ops Q rest ((d, .slice (if c = l then A else A.map (·.add (l * sz))) (h - l) (c - l)) :: fr) L) :
    WL q P w0 X N ops Q (⟨some d, .slice T x lo hi none, ty, ps, af, none⟩ :: rest) fr L :=
  WL.value rfl rfl hN (fun a w ha _ => by
    obtain ⟨i, z, hu, hi', hz, hsz, _⟩ := tslice_parts hT.h
    have := hr a w ha
    have hsz' : (sizeOf e).run P w = .ok sz w := by simp [sizeOf, typeInfo, hi', hsz]
    simp only [execOp, ha.ev hx, Option.map_none, Instr.sliceAt, Instr.slice, Sem.run_bind, run_underlying hu, Result.andThen_ok, this, hsz']
    rfl) k
theorem WL.sliceLoV (mm : Nat) {x y : Operand} {T e bw n c g o : Nat} {zs : List Value} {m : Int} [hT : TSlice P T e sz bw zs] (hx : ev fr x = some (.slice (some ⟨g, o, none⟩) n c)) (hy : ev fr y = some (.int .i64 m)) (hm : m = mm) (hb : mm ≤ n ∧ mm < c) (hN : Nat.ble (d + 1) N = true)
    (k : WL q P w0 X N ops Q rest ((d, .slice (some ⟨g, o + mm * sz, none⟩) (n - mm) (c - mm)) :: fr) L) :
    WL q P w0 X N ops Q (⟨some d, .slice T x (some y) none none, ty, ps, af, none⟩ :: rest) fr L := by
  subst hm
  refine WL.sliceB (l := mm) (h := n) hx (fun a w ha => by simp [Instr.sliceBounds, ha.ev hy, run_bound (P := P) (n := (mm : Int)) (y := n) rfl (by omega)]) hN ?_
  rw [if_neg (by omega)]
  simp only [Option.map_some, add_lit]
  exact k
theorem WL.sliceHiV (mm : Nat) {x y : Operand} {T e bw n c g o : Nat} {zs : List Value} {m : Int} [hT : TSlice P T e sz bw zs] (hx : ev fr x = some (.slice (some ⟨g, o, none⟩) n c)) (hy : ev fr y = some (.int .i64 m)) (hm : m = mm) (hb : mm ≤ c) (hN : Nat.ble (d + 1) N = true)
    (k : WL q P w0 X N ops Q rest ((d, .slice (some ⟨g, o, none⟩) mm c) :: fr) L) :
    WL q P w0 X N ops Q (⟨some d, .slice T x none (some y) none, ty, ps, af, none⟩ :: rest) fr L := by
  subst hm
  refine WL.sliceB (l := 0) (h := mm) hx (fun a w ha => by simp [Instr.sliceBounds, ha.ev hy, run_bound (P := P) (n := (mm : Int)) (y := c) rfl (by omega)]) hN ?_
  have e : (if c = 0 then some (⟨g, o, none⟩ : Addr) else (some (⟨g, o, none⟩ : Addr)).map (·.add (0 * sz))) = some ⟨g, o, none⟩ := by
    split
    · rfl
    · simp [add_lit]
  rw [e]
  exact k

/-- copy within known blocks -/
theorem WL.callCopy {x y : Operand} {T T' e bw b o dn dc b' o' sn sc t t' m : Nat} {zs cs cs' : List Value} {L' : List Res} [hT : TSlice P T e sz bw zs] (hx : ev fr x = some (.slice (some ⟨b, o, none⟩) dn dc)) (hy : ev fr y = some (.slice (some ⟨b', o', none⟩) sn sc))
    (hR : Repl L (blk b t cs) (blk b t (cs.take o ++ (cs'.drop o').take (m * sz) ++ cs.drop (o + m * sz))) L') (hS : blk b' t' cs' ∈ L) (hm : Nat.min sn dn = m) (h1 : o + m * sz ≤ cs.length) (h2 : o' + m * sz ≤ cs'.length)
    (h3 : ∀ v ∈ (cs'.drop o').take (m * sz), v.oneCell' = true) (hN : Nat.ble (d + 1) N = true)
    (k : WL false P w0 X N ops Q rest ((d, .int .i64 (m : Int)) :: fr) L') :
    WL false P w0 X N ops Q (⟨some d, .call { callee := .builtin .copy, args := #[x, y], argTypes := #[T, T'] }, ty, ps, af, none⟩ :: rest) fr L :=
  WL.makes (B := Unit) (G := fun _ => True) (v := fun _ => .int .i64 (m : Int)) (L' := fun _ => L') rfl rfl hN (fun a w ha hs => by
    obtain ⟨i, z, hu, hi, hz, hsz, _⟩ := tslice_parts hT.h
    have hb := blk_holds.1 (hs.mem_repl hR)
    have hb' := blk_holds.1 (hs.res _ hS)
    generalize hseg : (cs'.drop o').take (m * sz) = seg at *
    have hsl : seg.length = m * sz := by rw [← hseg]; simp; omega
    have hl := run_loadCells_list (P := P) w ⟨b', o', none⟩ seg (fun j v hj => by
      rw [add_lit, cell_blk hb', ← hj, ← hseg]
      have : j < m * sz := by rw [← hsl]; exact (List.getElem?_eq_some_iff.1 hj).1
      rw [List.getElem?_take, if_pos this, List.getElem?_drop])
    have hst := run_storeCells_at P b o t seg 0 cs.toArray w hb (by simp [hsl]; omega) h3
    rw [hsl] at hl
    refine ⟨(), w.setRow b (cs.take o ++ seg ++ cs.drop (o + m * sz)).toArray, ?_, trivial, hs.setRow hR⟩
    have e3 : (cs.take (o + 0) ++ seg ++ cs.drop (o + 0 + seg.length)) = cs.take o ++ seg ++ cs.drop (o + m * sz) := by rw [hsl]; simp
    simp only [e3] at hst
    simp only [execOp, resolve, invoke, builtin, Sem.run_bind, Sem.run_pure, Result.andThen_ok, List.map_toArray, List.map_cons, List.map_nil, ha.ev hx, ha.ev hy]
    simp [Builtin.copy_, run_underlying hu, Builtin.lenOf, Builtin.firstCells, sizeOf, typeInfo, hi, hsz, hm, hl, hst, goInt]) (fun _ _ => k)

/-- append of a make: a new block -/
theorem WL.apZ (j nn : Nat) {x y : Operand} {T TI e bw g n c t : Nat} {zs cs : List Value} {m : Int} [hT : TSlice P T e sz bw zs] (hI : P.underlying TI = some (.int .i64)) (hx : ev fr x = some (.slice (some ⟨g, 0, none⟩) n c)) (hy : ev fr y = some (.int .i64 m))
    (hB : blk g t cs ∈ L) (hm : m = j) (hnn : n + j = nn) (hn : n * sz ≤ cs.length) (hp : 0 < sz) (hk : 0 < j) (hroom : c < nn) (hbig : nn ≤ 1099511627776) (hbw : Nat.ble bw 64 = true) (hN : Nat.ble (d + 1) N = true)
    (k : ∀ g' c' cs', nn ≤ c' → c' ≤ maxLen → cs'.length = c' * sz → cs'.take (n * sz) = cs.take (n * sz) → WL false P w0 X N ops Q rest ((d, .slice (some ⟨g', 0, none⟩) (nn) c') :: fr) (blk g' e cs' :: L)) :
    WL false P w0 X N ops Q (⟨some d, .call { callee := .builtin .append, args := #[x, y], argTypes := #[T, TI] }, ty, ps, af, none⟩ :: rest) fr L :=
  WL.makes (B := Nat × Nat × List Value) (G := fun r => nn ≤ r.2.1 ∧ r.2.1 ≤ maxLen ∧ r.2.2.length = r.2.1 * sz ∧ r.2.2.take (n * sz) = cs.take (n * sz)) (v := fun r => .slice (some ⟨r.1, 0, none⟩) (nn) r.2.1) (L' := fun r => blk r.1 e r.2.2 :: L) rfl rfl hN (fun a w ha hs => by
    obtain ⟨i, z, hu, hi, hz, rfl, rfl, hzs, hzz⟩ := tslice_parts hT.h
    have hbw' := Nat.le_of_ble_eq_true hbw
    subst hm
    subst hnn
    have hb := blk_holds.1 (hs.res _ hB)
    have hb2 : w.drew.heap[g]? = some (.cells cs.toArray t (0, 0)) := hb
    have hold : (Builtin.firstCells i.size n (.slice (some ⟨g, 0, none⟩) n c)).run P w.drew = .ok (cs.take (n * i.size)).toArray w.drew :=
      run_firstCells_some w.drew i.size n ⟨g, 0, none⟩ n c (cs.take (n * i.size)) (by rw [List.length_take]; omega) (fun j v hj => by
        rw [add_lit, cell_blk hb2, ← hj]
        have : j < n * i.size := by have := (List.getElem?_eq_some_iff.1 hj).1; rw [List.length_take] at this; omega
        rw [List.getElem?_take, if_pos this, Nat.zero_add])
    have h1 : j * i.bytes ≤ 1099511627776 * 64 := Nat.mul_le_mul (by omega) hbw'
    have h2 : (n + j) * i.bytes ≤ 1099511627776 * 64 := Nat.mul_le_mul (by omega) hbw'
    have hr := Lib.run_append_grow_zeros (P := P) w T TI ty e i z .i64 .i64 hu hI hi hz (some ⟨g, 0, none⟩) n c (cs.take (n * i.size)) hold j (by omega) hp (by omega) (by omega) (by omega) (growslice_fits (by omega) (by omega))
    have hge := grownCap_ge w (n + j) c e
    have hle := grownCap_le_maxLen w (n + j) c e (by unfold maxLen; omega)
    have hzc : ∀ r, (Builtin.zeroCells z.cells r).size = r * i.size := fun r => by simp [Builtin.zeroCells, hzz]
    refine ⟨(w.heap.size, grownCap w (n + j) c e, ((cs.take (n * i.size)).toArray ++ Builtin.zeroCells z.cells j ++ Builtin.zeroCells z.cells (grownCap w (n + j) c e - (n + j))).toList), w.drew.alloc (.cells ((cs.take (n * i.size)).toArray ++ Builtin.zeroCells z.cells j ++ Builtin.zeroCells z.cells (grownCap w (n + j) c e - (n + j))) e), ?_, ⟨hge, hle, ?_, ?_⟩, ?_⟩
    · simp only [execOp, resolve, invoke, builtin, Sem.run_bind, Sem.run_pure, Result.andThen_ok, List.map_toArray, List.map_cons, List.map_nil, ha.ev hx, ha.ev hy, hr]
    · have e1 : (cs.take (n * i.size)).length = n * i.size := by rw [List.length_take]; omega
      simp only [Array.length_toList, Array.size_append, List.size_toArray, hzc, e1]
      rw [← Nat.add_mul, ← Nat.add_mul]; congr 1; omega
    · simp only [Array.toList_append, List.append_assoc]
      rw [List.take_left' (by rw [List.length_take]; omega)]
    · generalize (cs.take (n * i.size)).toArray ++ Builtin.zeroCells z.cells j ++ Builtin.zeroCells z.cells (grownCap w (n + j) c e - (n + j)) = A
      have := (hs.of_keep (Keep.drew _ _)).alloc e A.toList
      rw [Array.toArray_toList] at this
      exact this) (fun r h => k r.1 r.2.1 r.2.2 h.1 h.2.1 h.2.2.1 h.2.2.2)
/-- the library asks whether two slices of different blocks share memory: they do not -/
theorem WL.callOverlaps {f fT fB fe : Nat} {fn : Func} {x : Operand} {ars : List Operand} {ats : Array Nat} {b1 o1 n1 c1 b2 o2 n2 c2 t1 t2 bw : Nat} {zs cs1 cs2 : List Value} (hF : P.funcs[f]? = some fn) (hname : (fn.name == "runtime.NumGoroutine") = false)
    (hbo : fn.body.isNone = true) (hnx : Extern.findNext fn = none) (hfi : Extern.find fn = some (Extern.SlicesOverlaps.overlaps #[fT, fT] #[fB])) (hT : TSlice P fT fe sz bw zs) (hf : ev fr x = some (.func (.func f) #[] #[]))
    (hv : evs fr ars = some [.slice (some ⟨b1, o1, none⟩) n1 c1, .slice (some ⟨b2, o2, none⟩) n2 c2]) (h1 : blk b1 t1 cs1 ∈ L) (h2 : blk b2 t2 cs2 ∈ L) (hne : ∀ w, St w0 X w L → b1 ≠ b2) (hp : 0 < cs2.length) (hN : Nat.ble (d + 1) N = true)
    (k : WL q P w0 X N ops Q rest ((d, .bool false) :: fr) L) :
    WL q P w0 X N ops Q (⟨some d, .call { callee := .value x, args := ars.toArray, argTypes := ats }, ty, ps, af, none⟩ :: rest) fr L :=
  WL.value rfl rfl hN (fun a w ha hs => by
    obtain ⟨i, z, hu, hi, hz, hsz, _⟩ := tslice_parts hT.h
    have e1 := blk_holds.1 (hs.res _ h1)
    have e2 := blk_holds.1 (hs.res _ h2)
    have hsz' : ∀ w, (sizeOf fe).run P w = .ok sz w := fun w => by simp [sizeOf, typeInfo, hi, hsz]
    have hr := Lib.run_overlaps_apart (P := P) w fT fB fe hu sz hsz' ⟨b1, o1, none⟩ ⟨b2, o2, none⟩ n1 c1 n2 c2 (hne w hs) t1 t2 cs1.length cs2.length (by simp [World.shape?, e1]) (by simp [World.shape?, e2]) (by omega) (by simp [World.frozen?, e1]) (by simp [World.frozen?, e1])
    have hrun := run_callFunc_extern hF hname hbo hnx hfi #[.slice (some ⟨b1, o1, none⟩) n1 c1, .slice (some ⟨b2, o2, none⟩) n2 c2] w
    rw [hr] at hrun
    have hvs := ha.evs hv
    simp [execOp, resolve, ha.ev hf, Deferred.ofValue, invoke, List.map_toArray, hvs, hrun, Result.andThen]) k

theorem St.startL {w : World} {L1 L2 : List Res} (h : St w0 X w (L1 ++ L2)) : St w (L1.flatMap Res.foot) w L1 :=
  ⟨Keep.refl _ _, fun r hr => h.res r (List.mem_append_left _ hr), (List.pairwise_append.1 h.apart).1, fun r hr b hb => .inr (List.mem_flatMap.2 ⟨r, hr, hb⟩)⟩
/-- a call that is handed two slices of the caller's own, and may turn both -/
theorem WL.call2O {f : Nat} {x : Operand} {ars : List Operand} {ats : Array Nat} {vs cap : List Value} {B : Type} {G : B → Prop} {v : B → Value} {R : B → Res} {t t' : Nat} {u u' : Value} {ys ys' : List α} {L1 L2 : List Res} [TFunc P f] [hD : CDel L u α E sz t ys L1] [hD2 : CDel L1 u' α E sz t' ys' L2]
    (hf : ev fr x = some (.func (.func f) #[] cap.toArray)) (hv : evs fr ars = some vs)
    (hc : ∀ w, St w (u.ownBlock.toList ++ u'.ownBlock.toList) w [own E sz u t ys, own E sz u' t' ys'] → CallsTo P f (vs ++ cap) w (u.ownBlock.toList ++ u'.ownBlock.toList) G v (fun x => [R x])) (hN : Nat.ble (d + 1) N = true)
    (k : ∀ x, G x → WL false P w0 X N ops Q rest ((d, v x) :: fr) (R x :: L2)) :
    WL false P w0 X N ops Q (⟨some d, .call { callee := .value x, args := ars.toArray, argTypes := ats }, ty, ps, af, none⟩ :: rest) fr L := by
  have hp : L.Perm ([own E sz u t ys, own E sz u' t' ys'] ++ L2) := hD.h.perm.trans (hD2.h.perm.cons _)
  refine WL.callM (Lc := [own E sz u t ys, own E sz u' t' ys']) (Lr := L2) (M := u.ownBlock.toList ++ u'.ownBlock.toList) (dst := some d) hf hv hp (fun b hb => ?_) (fun w h => hc w ?_) hN k
  · rcases List.mem_append.1 hb with hb | hb
    · exact ⟨_, List.mem_cons_self .., by rw [own_foot]; exact hb⟩
    · exact ⟨_, List.mem_cons_of_mem _ (List.mem_cons_self ..), by rw [own_foot]; exact hb⟩
  · have := St.startL (h.perm hp)
    simpa [own_foot] using this
end
/-- the ways through a drawing region meet behind it -/
theorem WC.joinR {P : Program} {w0 : World} {X : List Nat} {N : Nat} {Q : Exit → Act → World → Prop} {fr : Fr} {L : List Res} (id : Nat) {A : Type} (ks : List Nat) (G : A → Prop) (up : A → Fr) (LI : A → List Res) (Ls : List Res) {l : List Oper} {fr0 : Fr} (hk : Pick fr ks fr0) (hm : P.follows .mixedOrders = true)
    (h1 : WH P w0 X N l.toArray (Exit.then (Inv G (fun x => up x ++ fr0) LI w0 X N (fun _ => True)) Q) Ls l.length (Array.replicate l.length false) fr L)
    (h2 : ∀ y, G y → WQ w0 X N Q .normal (up y ++ fr0) (LI y)) : WC P w0 X N Q (Code.region id l.toArray true) fr L := WC.join ks G up LI hk (WC.drawsX Ls hm h1) h2
theorem WQ.met {A : Type} {w0 : World} {X : List Nat} {N : Nat} {Q : Exit → Act → World → Prop} {fr fr0 : Fr} {L : List Res} {G : A → Prop} {up : A → Fr} {LI : A → List Res} (y : A) (hG : G y) (hup : Fr.le (up y) fr) (h0 : Fr.le fr0 fr) (hL : ∀ w, Vc.St w0 X w L → Vc.St w0 X w (LI y)) :
    WQ w0 X N (Exit.then (Inv G (fun x => up x ++ fr0) LI w0 X N (fun _ => True)) Q) .normal fr L := WQ.againU y hG trivial hup h0 hL
end Go.Proofs.Ytcmmfamippdgbaa.Vc
