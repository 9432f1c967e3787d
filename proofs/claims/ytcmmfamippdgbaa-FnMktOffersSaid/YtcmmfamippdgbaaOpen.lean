/- From the readings of a law's arguments to the calculus' words; from a law's contract to its row. -/
import Derived.Test.YtcmmfamippdgbaaRows
import Derived.Test.YtcmmfamippdgbaaV2
import Derived.WalkKit
import Derived.ProofKit
import Derived.OpenShut
import Derived.Deep.Slices
namespace Go.Proofs.Ytcmmfamippdgbaa.Vc
open Go.ChangeShapes Go.WideShapes Go.ChangeAt Go.RowKit

/-! ## what a reading tells -/
/-- Cells that read as type t are E y for some y with 'Good'. -/
def Opens (P : Program) (t : TypeId) {α : Type} (E : α → List Value) (Good : World → α → Prop) : Prop :=
  ∀ {H : Type} (enc : TypeId × Value → H) (w : World) (base : Nat) (spare : Nat → Bool) (held : Bool) (fuel : Nat) (cs : List Value) (x : DataW H × List MemPlace),
    DataW.trod enc P w base spare held fuel t cs = some x → ∃ y, cs = E y ∧ Good w y

theorem wf_i64 {n : Int} (h : (Lit.int .i64 n).wf = true) : -9223372036854775808 ≤ n ∧ n ≤ 9223372036854775807 := by
  simpa [Lit.wf, IntKind.min, IntKind.max, IntKind.signed, IntKind.bits] using h
theorem wf_u8 {n : Int} (h : (Lit.int .u8 n).wf = true) : 0 ≤ n ∧ n ≤ 255 := by
  simpa [Lit.wf, IntKind.min, IntKind.max, IntKind.signed, IntKind.bits] using h


section
variable {P : Program}
def Fits64 (n : Int) : Prop := -9223372036854775808 ≤ n ∧ n ≤ 9223372036854775807
theorem opens_int {t : TypeId} (ht : P.underlying t = some (.int .i64)) : Opens P t intE (fun _ n => Fits64 n) := by
  intro H enc w base spare held fuel cs x h
  obtain ⟨n, rfl, _, hw⟩ := DataW.trod_int ht h
  exact ⟨n, rfl, wf_i64 hw⟩
theorem opens_byte {t : TypeId} (ht : P.underlying t = some (.int .u8)) : Opens P t byteE (fun _ n => 0 ≤ n ∧ n ≤ 255) := by
  intro H enc w base spare held fuel cs x h
  obtain ⟨n, rfl, _, hw⟩ := DataW.trod_int ht h
  exact ⟨n, rfl, wf_u8 hw⟩
theorem opens_bool {t : TypeId} (ht : P.underlying t = some .bool) : Opens P t (fun b : Bool => [.bool b]) (fun _ _ => True) := by
  intro H enc w base spare held fuel cs x h
  obtain ⟨b, rfl, _⟩ := DataW.trod_bool ht h
  exact ⟨b, rfl, trivial⟩

theorem exists_list {α : Type} {n : Nat} {p : Nat → α → Prop} (h : ∀ i, i < n → ∃ y, p i y) : ∃ ys : List α, ys.length = n ∧ ∀ i y, ys[i]? = some y → p i y := by
  induction n with
  | zero => exact ⟨[], rfl, fun i y hi => by simp at hi⟩
  | succ n ih =>
    obtain ⟨ys, hl, hp⟩ := ih (fun i hi => h i (by omega))
    obtain ⟨y, hy⟩ := h n (by omega)
    refine ⟨ys ++ [y], by simp [hl], fun i z hi => ?_⟩
    by_cases hin : i < n
    · rw [List.getElem?_append_left (by omega)] at hi
      exact hp i z hi
    · rw [List.getElem?_append_right (by omega)] at hi
      have hi0 : i - ys.length = 0 := by
        rcases Nat.eq_zero_or_pos (i - ys.length) with h0 | h0
        · exact h0
        · rw [List.getElem?_eq_none (by simp; omega)] at hi; cases hi
      rw [hi0] at hi
      simp at hi
      subst hi
      have : i = n := by omega
      subst this; exact hy

theorem opens_slice {α : Type} {E : α → List Value} {sz : Nat} {t e : TypeId} {Ge : World → α → Prop} (hE : Enc E sz) (ht : P.underlying t = some (.slice e)) (hc : P.cellsOf e = sz) (he : Opens P e E Ge) :
    Opens P t (fun x : Value × List α => [x.1]) (fun w x => Sl E sz x.1 x.2 w ∧ (∀ y ∈ x.2, Ge w y) ∧ x.2.length ≤ maxLen) := by
  intro H enc w base spare held fuel cs x h
  rcases Go.Deep.open_slice ht h with ⟨rfl, _⟩ | ⟨a, len, cap, m, n, D, Pl, rfl, _, hl, hm, hmm, _, hx⟩
  · exact ⟨(.slice none 0 0, []), rfl, Sl.nil w 0 none, by simp, by simp⟩
  · have hlm : len ≤ m := by rw [hmm]; split <;> omega
    obtain ⟨ys, hys, hp⟩ := exists_list (n := len) (p := fun i y => (∀ f u, (E y)[f]? = some u → w.cell? (a.add (i * sz + f)) = some u) ∧ Ge w y) (fun i hi => by
      obtain ⟨cs', h1, h2⟩ := hx i (by omega)
      obtain ⟨y, rfl, hg⟩ := he enc w base spare held n cs' _ h2
      obtain ⟨_, h4, h5⟩ := World.cells?_some h1
      refine ⟨y, fun f u hu => ?_, hg⟩
      have hf : f < P.cellsOf e := by rw [← h4]; exact (List.getElem?_eq_some_iff.1 hu).1
      have := h5 f hf
      rw [add_add_, hc] at this
      rw [this]; exact hu)
    refine ⟨(.slice (some a) len cap, ys), rfl, ?_, fun y hy => ?_, by show ys.length ≤ _; omega⟩
    · unfold Sl
      refine ⟨some a, cap, by rw [hys], by rw [hys]; exact hl, fun _ => ⟨a, rfl, fun j u hj => ?_⟩⟩
      have hjl : j < ys.length * sz := by
        have := (List.getElem?_eq_some_iff.1 hj).1
        rwa [hE.flat_len] at this
      obtain ⟨q, r, hr, rfl⟩ : ∃ q r, r < sz ∧ j = q * sz + r := ⟨j / sz, j % sz, Nat.mod_lt _ hE.pos, by rw [Nat.mul_comm]; exact (Nat.div_add_mod _ _).symm⟩
      have hq : q < ys.length := by
        rcases Nat.lt_or_ge q ys.length with hq | hq
        · exact hq
        · have := Nat.mul_le_mul_right sz hq; omega
      have e1 : ys[q]? = some ys[q] := List.getElem?_eq_getElem hq
      rw [hE.flat_at e1 hr] at hj
      exact (hp q _ e1).1 r u hj
    · obtain ⟨i, hi⟩ := List.mem_iff_getElem?.1 hy
      exact (hp i y hi).2

/-- flat structs: ints and bools, a cell each -/
def flatKinds (P : Program) (t : Nat) : Option (List Bool) :=
  match P.underlying t with
  | some (.struct fs) => if oneCellFields' P fs.toList 0 && P.cellsOf t == fs.size then fs.toList.mapM (fun f => match P.underlying f.type with | some (.int .i64) => some false | some .bool => some true | _ => none) else none
  | _ => none
where oneCellFields' (P : Program) : List Field → Nat → Bool
  | [], _ => true
  | f :: fs, i => f.offset == i && P.cellsOf f.type == 1 && oneCellFields' P fs (i + 1)
def okK : List Bool → List Value → Prop
  | [], [] => True
  | false :: ks, .int .i64 n :: r => Fits64 n ∧ okK ks r
  | true :: ks, .bool _ :: r => okK ks r
  | _, _ => False

theorem flat_list (P : Program) {H : Type} (enc : TypeId × Value → H) (w : World) (base : Nat) (spare : Nat → Bool) (held : Bool) (n : Nat) : ∀ (fs : List Field) (i : Nat) (ks : List Bool) (cs : List Value), flatKinds.oneCellFields' P fs i = true →
    fs.mapM (fun f => match P.underlying f.type with | some (.int .i64) => some false | some .bool => some true | _ => none) = some ks → cs.length = i + fs.length →
    (∀ (j : Nat) (f : Field), fs[j]? = some f → ∃ y, DataW.trod enc P w base spare held n f.type ((cs.drop f.offset).take (P.cellsOf f.type)) = some y) → okK ks (cs.drop i)
  | [], i, ks, cs, _, hk, hl, _ => by
    simp at hk; subst hk
    rw [List.drop_eq_nil_of_le (by simp at hl; omega)]; trivial
  | f :: fs, i, ks, cs, ho, hk, hl, hf => by
    simp only [flatKinds.oneCellFields', Bool.and_eq_true, beq_iff_eq] at ho
    obtain ⟨⟨h1, h2⟩, h3⟩ := ho
    have hi : i < cs.length := by simp at hl; omega
    have e : cs.drop i = cs[i] :: cs.drop (i + 1) := List.drop_eq_getElem_cons hi
    have ih := fun ks' hk' => flat_list P enc w base spare held n fs (i + 1) ks' cs h3 hk' (by simp at hl; omega) (fun j g hj => hf (j + 1) g (by simpa using hj))
    obtain ⟨y, hy⟩ := hf 0 f (by simp)
    rw [h1, h2, e] at hy
    simp only [List.take_succ_cons, List.take_zero] at hy
    simp only [List.mapM_cons, Option.bind_eq_bind] at hk
    rw [e]
    split at hk
    · rename_i hu
      obtain ⟨m, hm, _, hw⟩ := DataW.trod_int hu hy
      simp only [List.cons.injEq, and_true] at hm
      cases hr : fs.mapM (fun f => match P.underlying f.type with | some (.int .i64) => some false | some .bool => some true | _ => none) with
      | none => simp [hr] at hk
      | some ks' =>
        simp [hr] at hk; subst hk
        rw [hm]
        exact ⟨wf_i64 hw, ih ks' hr⟩
    · rename_i hu
      obtain ⟨b, hb, _⟩ := DataW.trod_bool hu hy
      simp only [List.cons.injEq, and_true] at hb
      cases hr : fs.mapM (fun f => match P.underlying f.type with | some (.int .i64) => some false | some .bool => some true | _ => none) with
      | none => simp [hr] at hk
      | some ks' =>
        simp [hr] at hk; subst hk
        rw [hb]
        exact ih ks' hr
    · simp at hk

theorem opens_flat {t : TypeId} {ks : List Bool} (hk : flatKinds P t = some ks) : Opens P t (fun l : List Value => l) (fun _ l => okK ks l) := by
  intro H enc w base spare held fuel cs x h
  refine ⟨cs, rfl, ?_⟩
  unfold flatKinds at hk
  split at hk
  · rename_i fs hu
    split at hk
    · rename_i ho
      simp only [Bool.and_eq_true, beq_iff_eq] at ho
      obtain ⟨xs, n, _, _, hl, hlen, hf⟩ := DataW.trod_struct hu h
      have := flat_list P enc w base spare held n fs.toList 0 ks cs ho.1 hk (by rw [hl, ho.2]; simp) (fun j f hj => by
        have hj' : fs[j]? = some f := by simpa using hj
        have hlt : j < xs.length := by rw [hlen]; exact (Array.getElem?_eq_some_iff.1 hj').1
        exact ⟨xs[j], by rw [hf j f hj', List.getElem?_eq_getElem hlt]⟩)
      simpa using this
    · cases hk
  · cases hk
/-- the same, by a type of ours -/
theorem Opens.as {t : TypeId} {α β : Type} {E : α → List Value} {E' : β → List Value} {G : World → α → Prop} {G' : World → β → Prop} (h : Opens P t E G) (hd : ∀ w y, G w y → ∃ z, E y = E' z ∧ G' w z) : Opens P t E' G' := by
  intro H enc w base spare held fuel cs x hx
  obtain ⟨y, rfl, hy⟩ := h enc w base spare held fuel cs x hx
  obtain ⟨z, hz, hg⟩ := hd w y hy
  exact ⟨z, hz, hg⟩

/-- an argument: a struct -/
theorem Opens.agg {t : TypeId} {α : Type} {E : α → List Value} {G : World → α → Prop} (h : Opens P t E G) {fs : Array Field} (ht : P.underlying t = some (.struct fs)) {H : Type} {enc : TypeId × Value → H} {w : World} {r : Reach} {b0 base : Nat} {spare : Nat → Bool} {held : Bool} {v : Value} {d : DataW H} {p : List MemPlace}
    (hv : Value.okWide P w r b0 t v) (hd : DataW.Trod enc P w base spare held t v d p) : ∃ y, v = .agg (E y).toArray ∧ G w y := by
  obtain ⟨cs, rfl, _⟩ := okWide_struct ht hv
  obtain ⟨fuel, hf⟩ := hd
  obtain ⟨y, hy, hg⟩ := h enc w base spare held fuel _ _ hf
  refine ⟨y, ?_, hg⟩
  have : cs.toList = E y := hy
  rw [← this]
/-- an argument: a slice -/
theorem Opens.sl {t e : TypeId} {α : Type} {G : World → Value × List α → Prop} (h : Opens P t (fun x : Value × List α => [x.1]) G) (ht : P.underlying t = some (.slice e)) {H : Type} {enc : TypeId × Value → H} {w : World} {r : Reach} {b0 base : Nat} {spare : Nat → Bool} {held : Bool} {v : Value} {d : DataW H} {p : List MemPlace}
    (hv : Value.okWide P w r b0 t v) (hd : DataW.Trod enc P w base spare held t v d p) : ∃ ys, G w (v, ys) := by
  obtain ⟨a, len, cap, rfl⟩ := okWide_slice ht hv
  obtain ⟨fuel, hf⟩ := hd
  obtain ⟨⟨u, ys⟩, hy, hg⟩ := h enc w base spare held fuel _ _ hf
  have : [Value.slice a len cap] = [u] := hy
  simp only [List.cons.injEq, and_true] at this
  subst this
  exact ⟨ys, hg⟩
theorem Opens.int {t : TypeId} {G : World → Int → Prop} (h : Opens P t intE G) (ht : P.underlying t = some (.int .i64)) {H : Type} {enc : TypeId × Value → H} {w : World} {r : Reach} {b0 base : Nat} {spare : Nat → Bool} {held : Bool} {v : Value} {d : DataW H} {p : List MemPlace}
    (hv : Value.okWide P w r b0 t v) (hd : DataW.Trod enc P w base spare held t v d p) : ∃ n, v = .int .i64 n ∧ G w n := by
  obtain ⟨n, rfl⟩ := okWide_int ht hv
  obtain ⟨fuel, hf⟩ := hd
  obtain ⟨m, hm, hg⟩ := h enc w base spare held fuel _ _ hf
  have : [Value.int .i64 n] = [Value.int .i64 m] := hm
  simp only [List.cons.injEq, Value.int.injEq, true_and, and_true] at this
  subst this
  exact ⟨n, rfl, hg⟩
end

/-! ## the arguments read behind the call as before -/
theorem trodAll_stays {P : Program} {H : Type} {enc : TypeId × Value → H} (hl : laidOutB P = true) {W W' : World} (hb : Below W.heap.size W W') (sp : Nat → Bool) : ∀ {ts : List TypeId} {vs : List Value} {ds : List (DataW H)} {ps : List MemPlace},
    (∀ t ∈ ts, P.readableRec t = true ∧ t < P.types.size) → DataW.TrodAll enc P W 0 (fun _ => true) true ts vs ds ps → (∀ p ∈ ps, sp p.block = true) → DataW.TrodAll enc P W' 0 sp true ts vs ds ps
  | [], vs, ds, ps, _, h, _ => by
    obtain ⟨rfl, rfl, rfl⟩ := trodAll_nil h
    exact trodAll_mk0
  | t :: ts, vs, ds, ps, ht, h, hs => by
    obtain ⟨v, vs', d, ds', p, q, rfl, rfl, rfl, h0, hr⟩ := trodAll_cons h
    have h1 := ht t (by simp)
    refine trodAll_cons_mk (Go.WideElems.Trod_stays hl h1.1 h1.2 h0 (fun x hx => hb.same ?_) (fun x hx => hs x (by simp [hx]))) (trodAll_stays hl hb sp (fun u hu => ht u (by simp [hu])) hr (fun x hx => hs x (by simp [hx])))
    exact h.lt x (by simp [hx])

/-- A law's contract, from its walk. -/
theorem law_post {P : Program} {H : Type} {enc : TypeId × Value → H} {f : Func} {s : ChangeSpec} {tb : TypeId} (hl : laidOutB P = true) (hpar0 : f.params.toList.all (fun t => P.readableRec t && Nat.blt t P.types.size) = true) (hres : f.resultTypes = #[tb]) (htb : P.underlying tb = some .bool) (hsv : s.vars = [])
    {W W' : World} {args : Array Value} {ds gs : List (DataW H)} {before : List MemPlace} (hW : DataW.Whole enc P f.params.toList s.vars false W args.toList ds gs before) (hfn : gs = [] → s.fn H (ds ++ gs) = { results := [.lit (.bool true)], args := ds })
    (hb : Below W.heap.size W W') : s.post enc P f false true false false W args (.bool true) W' := by
  have hpar : ∀ t ∈ f.params.toList, P.readableRec t = true ∧ t < P.types.size := fun t ht => by
    have := List.all_eq_true.1 hpar0 t ht
    simp only [Bool.and_eq_true] at this
    exact ⟨this.1, Nat.le_of_ble_eq_true this.2⟩
  have hW' := hW
  obtain ⟨p, q, hA, hV, rfl, hfz, hnd⟩ := hW
  rw [hsv] at hV
  obtain ⟨rfl, rfl⟩ := trodVars_none hV
  simp only [List.append_nil] at hW'
  have hlt : ∀ x ∈ p, x.block < W.heap.size := fun x hx => hW'.lt x hx
  have hargs : ∀ sp : Nat → Bool, (∀ x ∈ p, sp x.block = true) → DataW.TrodAll enc P W' 0 sp true f.params.toList args.toList ds p := fun sp hsp => trodAll_stays hl hb sp hpar hA hsp
  have hvars : ∀ sp : Nat → Bool, DataW.TrodVars enc P W' sp s.vars [] [] := fun sp => by rw [hsv]; rfl
  have hr : ∀ (b : Nat) (sp : Nat → Bool) (hd : Bool), DataW.TrodAll enc P W' b sp hd f.resultTypes.toList ((Value.bool true).resultList f.resultTypes.size) [.lit (.bool true)] [] := fun b sp hd => by
    rw [hres]
    exact trodAll_mk1 (shut_bool htb true)
  have hold : ∀ x ∈ p, (fun b => decide (b < W.heap.size)) x.block = true := fun x hx => by simpa using hlt x hx
  have hfn' := hfn rfl
  refine ⟨ds, [], p, [], p, [], hW', ?_, ?_, ?_, ?_, fun h => ?_⟩
  · rw [hfn']; exact hr _ _ _
  · rw [hfn']; exact hargs _ hold
  · rw [hfn']; exact hvars _
  · exact World.keptBut_mono (fun x hx => ⟨hx, by simpa using hx⟩) (hb.frame (· ∈ p))
  · cases h

/-- From a law's walk to its contract. -/
theorem law_contract {P : Program} {H : Type} {enc : TypeId × Value → H} {k : Nat} {f : Func} {s : ChangeSpec} {tb : TypeId} (hl : laidOutB P = true) (hpar : f.params.toList.all (fun t => P.readableRec t && Nat.blt t P.types.size) = true) (hres : f.resultTypes = #[tb]) (htb : P.underlying tb = some .bool) (hsv : s.vars = [])
    {W : World} {args : Array Value} {ds gs : List (DataW H)} {before : List MemPlace} (hW : DataW.Whole enc P f.params.toList s.vars false W args.toList ds gs before) (hfn : gs = [] → s.fn H (ds ++ gs) = { results := [.lit (.bool true)], args := ds })
    {argv : List Value} (ha : args = argv.toArray) (hc : FnP P k argv W (.bool true)) : Calls P k args W fun e W' => ∃ v, e = .returned v ∧ s.post enc P f false true false false W args v W' := by
  subst ha
  refine Calls.mono hc.calls fun e W' ⟨he, hs⟩ => ?_
  exact ⟨_, he, law_post hl hpar hres htb hsv hW hfn hs.keep.below⟩
end Go.Proofs.Ytcmmfamippdgbaa.Vc
namespace Go.Proofs.Ytcmmfamippdgbaa
theorem own_ : ownKnob Try.prog.godebug = none := by kernel_rfl
theorem laid_ : laidOutB Try.prog = true := by kernel_rfl
end Go.Proofs.Ytcmmfamippdgbaa
