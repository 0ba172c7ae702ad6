/- A region that draws its order, by an invariant of what has been carried out: each operation is carried out once, in a world that is a letter. -/
import Derived.Test.YtjceapbbapofmaaPTrustPathsx0
import Derived.StillTail
namespace Go.Proofs.Ytjceapbbapofmaa.Q
open Go.RowKit Go.Proofs.YtjceapbbapofmaaW.PrintWords Go.Proofs.YtjceapbbapofmaaW.PrintLast Go.Proofs.YtjceapbbapofmaaW.PrintMore
section
variable {P : Program} {ops : Array Oper} {Q : Exit → Act → World → Prop}
theorem count_set {l : List Bool} {i : Nat} (h : l[i]? = some false) : (l.set i true).count false < l.count false := by
  induction l generalizing i with
  | nil => simp at h
  | cons x l ih =>
    cases i with
    | zero =>
      simp at h
      subst h
      simp
    | succ i =>
      simp at h
      have := ih h
      simp only [List.set_cons_succ, List.count_cons]
      omega
theorem getD_false {listed : Array Bool} {i : Nat} (h : listed.getD i true = false) : listed.toList[i]? = some false := by
  rw [Array.getD_eq_getD_getElem?] at h
  rw [Array.getElem?_toList]
  cases hx : listed[i]? with
  | none => rw [hx] at h; simp at h
  | some b => rw [hx] at h; simp at h; rw [h]
/-- Whichever comes up keeps Inv; at the end it gives what is asked. -/
theorem wpAny_inv (Inv : Array Bool → Act → World → Prop)
    (hstep : ∀ listed a w i o, Inv listed a w → ops[i]? = some o → listed.getD i true = false → (∀ e ∈ o.after, Region.binds .any e = true → listed.getD e.on false = true) → wpOp P ops Q i (Inv (listed.setIfInBounds i true)) a w)
    (hend : ∀ listed a w, Inv listed a w → Region.ready .any ops listed = [] → Q .normal a w) :
    ∀ (fuel : Nat) (listed : Array Bool) (a : Act) (w : World), listed.toList.count false ≤ fuel → Inv listed a w → wpAny P .any ops Q fuel listed a w := by
  intro fuel
  induction fuel with
  | zero =>
    intro listed a w hc h
    have hr : Region.ready .any ops listed = [] := by
      refine List.eq_nil_iff_forall_not_mem.2 fun i hi => ?_
      obtain ⟨h0, _⟩ := mem_ready.1 hi
      have := count_set (getD_false h0)
      omega
    exact ⟨hr, hend _ _ _ h hr⟩
  | succ fuel ih =>
    intro listed a w hc h
    refine ⟨hend _ _ _ h, fun i hi => ?_⟩
    obtain ⟨h0, o, ho, ha⟩ := mem_ready.1 hi
    refine wpOp_mono (fun a' w' h' => ih _ a' w' ?_ h') (hstep listed a w i o h ho h0 ha)
    have := count_set (getD_false h0)
    rw [Array.toList_setIfInBounds]
    omega
/-- The slot of an operation. -/
def dstOf (ops : Array Oper) (j : Nat) : Option Tmp := (ops[j]?).bind (·.dst)
def slotOf (ops : Array Oper) (a : Act) (j : Nat) : Value := match dstOf ops j with | some t => a.tmps.getD t undef | none => undef
/-- The frame, with the slots laid. -/
def layF (ops : Array Oper) (n : Nat) (l : List Value) (vs : Nat → Value) : List Value :=
  l.zipIdx.map fun p => match (List.range n).find? (fun j => dstOf ops j == some p.2) with | some j => vs j | none => p.1
structure FrOk (ops : Array Oper) (n : Nat) (a0 a : Act) : Prop where
  size : a.tmps.size = a0.tmps.size
  defers : a.defers = a0.defers
  rest : ∀ k, (∀ j, j < n → dstOf ops j ≠ some k) → a.tmps[k]? = a0.tmps[k]?
theorem FrOk.get {n : Nat} {a0 a : Act} (h : FrOk ops n a0 a) {k : Nat} (hk : ∀ j, j < n → dstOf ops j ≠ some k) : a.tmps.getD k undef = a0.tmps.getD k undef := by
  rw [Array.getD_eq_getD_getElem?, Array.getD_eq_getD_getElem?, h.rest k hk]
theorem FrOk.put {n : Nat} {a0 a : Act} (h : FrOk ops n a0 a) {i : Nat} {o : Oper} (ho : ops[i]? = some o) (hi : i < n) (v : Value) : FrOk ops n a0 (a.put o.dst v) := by
  have hd : dstOf ops i = o.dst := by unfold dstOf; rw [ho]; rfl
  unfold Act.put
  cases hq : o.dst with
  | none => exact h
  | some d =>
    refine ⟨by simpa using h.size, h.defers, fun k hk => ?_⟩
    have hne : d ≠ k := fun e => hk i hi (by rw [hd, hq, e])
    rw [← h.rest k hk]
    simp [hne]
theorem FrOk.lay {n : Nat} {a0 a : Act} (h : FrOk ops n a0 a) : a = ⟨(layF ops n a0.tmps.toList (slotOf ops a)).toArray, a0.defers⟩ := by
  have hd := h.defers
  obtain ⟨t, d⟩ := a
  simp only at hd
  subst hd
  have e : t = (layF ops n a0.tmps.toList (slotOf ops ⟨t, a0.defers⟩)).toArray := by
    apply Array.ext'
    rw [List.toList_toArray]
    refine List.ext_getElem? fun k => ?_
    unfold layF
    rw [List.getElem?_map, List.getElem?_zipIdx]
    have hs := h.size
    simp only at hs
    by_cases hk : k < t.size
    · have hk0 : k < a0.tmps.toList.length := by simpa using hs ▸ hk
      rw [List.getElem?_eq_getElem hk0]
      simp only [Option.map_some, Nat.zero_add]
      cases hf : (List.range n).find? (fun j => dstOf ops j == some k) with
      | none =>
        have := h.rest k (fun j hj e => by
          have := List.find?_eq_none.1 hf j (List.mem_range.2 hj)
          simp [e] at this)
        simp only at this
        rw [Array.getElem?_toList, this, Array.getElem?_eq_getElem (by simpa using hk0)]
        simp
      | some j =>
        have hj := List.find?_some hf
        have hj' : dstOf ops j = some k := by simpa using hj
        rw [Array.getElem?_toList, Array.getElem?_eq_getElem hk]
        simp [slotOf, hj', Array.getD, hk]
    · have hk0 : ¬ k < a0.tmps.toList.length := by rw [Array.length_toList, ← hs]; exact hk
      rw [List.getElem?_eq_none (by rw [Array.length_toList]; exact Nat.not_lt.1 hk), List.getElem?_eq_none (by omega)]
      rfl
  rw [← e]
theorem slot_put_same {i : Nat} {o : Oper} {a : Act} {v : Value} {t : Tmp} (ho : ops[i]? = some o) (ht : dstOf ops i = some t) (hs : t < a.tmps.size) : slotOf ops (a.put o.dst v) i = v := by
  have hd : o.dst = some t := by unfold dstOf at ht; rw [ho] at ht; exact ht
  unfold slotOf
  rw [ht, hd]
  simp [Act.put, Array.getD, hs]
theorem slot_put_other {i j : Nat} {o : Oper} {a : Act} {v : Value} {t : Tmp} (ho : ops[i]? = some o) (ht : dstOf ops i = some t) (hne : dstOf ops j ≠ some t) : slotOf ops (a.put o.dst v) j = slotOf ops a j := by
  have hd : o.dst = some t := by unfold dstOf at ht; rw [ho] at ht; exact ht
  unfold slotOf
  rw [hd]
  cases hj : dstOf ops j with
  | none => rfl
  | some k =>
    have hk : t ≠ k := fun e => hne (by rw [hj, e])
    simp [Act.put, Array.getD_eq_getD_getElem?, hk]
/-- The region's form: no guards; edges go back; each has a slot of its own, or none. -/
def regOk3 (ops : Array Oper) (m : Nat) : Bool :=
  (List.range ops.size).all (fun i => ((ops[i]?).map fun o => o.guard.isNone && o.after.all fun e => decide (e.on < i)).getD false)
  && (List.range ops.size).all fun i => match dstOf ops i with | none => true | some t => decide (t < m) && (List.range ops.size).all fun j => i == j || dstOf ops j != some t
theorem slot_put_none {i j : Nat} {o : Oper} {a : Act} {v : Value} (ho : ops[i]? = some o) (ht : dstOf ops i = none) : slotOf ops (a.put o.dst v) j = slotOf ops a j := by
  have hd : o.dst = none := by unfold dstOf at ht; rw [ho] at ht; exact ht
  rw [hd]; rfl
/-- What one step owes: its value, and the invariant anew. -/
def StepPost (ops : Array Oper) (Val : Nat → Value → Prop) (Inv : (Nat → Bool) → (Nat → Value) → World → Prop) (L : Nat → Bool) (a : Act) (i : Nat) (d : Option Tmp) (a' : Act) (w' : World) : Prop :=
  ∃ v, a' = a.put d v ∧ Val i v ∧ ∀ sl, (∀ j, j < ops.size → j ≠ i → sl j = slotOf ops a j) → (dstOf ops i ≠ none → sl i = v) → Inv (fun j => if i = j then true else L j) sl w'
theorem StepPost.mk {Val : Nat → Value → Prop} {Inv : (Nat → Bool) → (Nat → Value) → World → Prop} {L : Nat → Bool} {a : Act} {i : Nat} {d : Option Tmp} {w' : World} {v : Value} (hv : Val i v)
    (h : ∀ sl, (∀ j, j < ops.size → j ≠ i → sl j = slotOf ops a j) → (dstOf ops i ≠ none → sl i = v) → Inv (fun j => if i = j then true else L j) sl w') : StepPost ops Val Inv L a i d (a.put d v) w' := ⟨v, rfl, hv, h⟩
theorem StepPost.none {Val : Nat → Value → Prop} {Inv : (Nat → Bool) → (Nat → Value) → World → Prop} {L : Nat → Bool} {a : Act} {i : Nat} {w' : World} (hv : Val i undef)
    (h : ∀ sl, (∀ j, j < ops.size → j ≠ i → sl j = slotOf ops a j) → (dstOf ops i ≠ none → sl i = undef) → Inv (fun j => if i = j then true else L j) sl w') : StepPost ops Val Inv L a i none a w' := ⟨undef, rfl, hv, h⟩
/-- A region that draws its order, by an invariant: L tells what has been carried out, sl what stands in its slots. -/
theorem wp_region_inv {id : Nat} {a0 : Act} {w0 : World} (Val : Nat → Value → Prop) (Inv : (Nat → Bool) → (Nat → Value) → World → Prop) (hm : P.follows .mixedOrders = true) (hok : regOk3 ops a0.tmps.size = true)
    (h0 : ∀ sl, Inv (fun _ => false) sl { w0 with drawn := w0.drawn + 1 }) (hnone : ∀ i, dstOf ops i = none → Val i undef)
    (hstep : ∀ (i : Nat) (o : Oper) (a : Act) (w : World) (L : Nat → Bool), i < ops.size → ops[i]? = some o → FrOk ops ops.size a0 a → L i = false → (∀ e ∈ o.after, Region.binds .any e = true → L e.on = true ∧ Val e.on (slotOf ops a e.on)) →
      (∀ (j : Nat) (o' : Oper), ops[j]? = some o' → L j = true → ∀ e ∈ o'.after, Region.binds .any e = true → L e.on = true) → Inv L (slotOf ops a) w →
      o.wp P a w (StepPost ops Val Inv L a i o.dst) Q)
    (hend : ∀ vs w, (∀ j, j < ops.size → Val j (vs j)) → Inv (fun _ => true) vs w → Q .normal ⟨(layF ops ops.size a0.tmps.toList vs).toArray, a0.defers⟩ w)
    (hInv : ∀ L L' sl w, (∀ j, j < ops.size → L j = L' j) → Inv L sl w → Inv L' sl w) :
    (Code.region id ops true).wp P Q a0 w0 := by
  unfold regOk3 at hok
  simp only [Bool.and_eq_true] at hok
  obtain ⟨h2, h4⟩ := hok
  have hG : ∀ (i : Nat) (o : Oper), ops[i]? = some o → o.guard = none ∧ ∀ e ∈ o.after, e.on < i := by
    intro i o ho
    have hlt : i < ops.size := (Array.getElem?_eq_some_iff.1 ho).1
    have := List.all_eq_true.1 h2 i (List.mem_range.2 hlt)
    rw [ho] at this
    simp only [Option.map_some, Option.getD_some, Bool.and_eq_true] at this
    refine ⟨by simpa using this.1, fun e he => ?_⟩
    have h := Array.all_eq_true_iff_forall_mem.1 this.2 e he
    simpa using h
  have hD : ∀ i, i < ops.size → ∀ j, j < ops.size → j ≠ i → ∀ t, dstOf ops i = some t → dstOf ops j ≠ some t := by
    intro i hi j hj hne t hd
    have h := List.all_eq_true.1 h4 i (List.mem_range.2 hi)
    rw [hd] at h
    simp only [Bool.and_eq_true] at h
    have h' := List.all_eq_true.1 h.2 j (List.mem_range.2 hj)
    intro hx
    rw [hx] at h'
    simp [Ne.symm hne] at h'
  have hD2 : ∀ i, i < ops.size → ∀ t, dstOf ops i = some t → t < a0.tmps.size := by
    intro i hi t hd
    have h := List.all_eq_true.1 h4 i (List.mem_range.2 hi)
    rw [hd] at h
    simp only [Bool.and_eq_true] at h
    exact of_decide_eq_true h.1
  have hW : ∀ (i : Nat) (o : Oper) (a : Act), ops[i]? = some o → Region.wanted o (yielded ops a.tmps) = true := fun i o a ho => by
    unfold Region.wanted
    rw [(hG i o ho).1]
  refine wp_region_any hm ?_
  refine wpAny_inv (fun listed a w => listed.size = ops.size ∧ FrOk ops ops.size a0 a ∧ (∀ (j : Nat) (o : Oper), ops[j]? = some o → listed.getD j false = true → ∀ e ∈ o.after, Region.binds .any e = true → listed.getD e.on false = true) ∧
    (∀ j, j < ops.size → listed.getD j false = true → Val j (slotOf ops a j)) ∧ Inv (fun j => listed.getD j false) (slotOf ops a) w) ?_ ?_ _ _ _ _ ?_ ?_
  · intro listed a w i o ⟨hsz, hF, hcl, hV, hI⟩ ho hl0 ha
    have hi : i < ops.size := (Array.getElem?_eq_some_iff.1 ho).1
    have hl : listed.getD i false = false := by
      rw [Array.getD_eq_getD_getElem?] at hl0 ⊢
      cases hx : listed[i]? <;> rw [hx] at hl0 <;> simp_all
    have hnew : ∀ j, (listed.setIfInBounds i true).getD j false = if i = j then true else listed.getD j false := fun j => by
      by_cases e : i = j
      · subst e; simp [Array.getD_eq_getD_getElem?, hsz, hi]
      · simp [Array.getD_eq_getD_getElem?, e]
    unfold wpOp
    rw [ho]
    simp only [hW i o a ho, if_true]
    refine .inl (Oper.wp_mono ?_ (hstep i o a w (fun j => listed.getD j false) hi ho hF hl (fun e he hb => ⟨ha e he hb, hV _ (Nat.lt_trans ((hG i o ho).2 e he) hi) (ha e he hb)⟩) hcl hI))
    rintro a' w' ⟨v, rfl, hv, hI'⟩
    have hother : ∀ j, j < ops.size → j ≠ i → slotOf ops (a.put o.dst v) j = slotOf ops a j := fun j hj hne => by
      cases hd : dstOf ops i with
      | none => exact slot_put_none ho hd
      | some t => exact slot_put_other ho hd (hD i hi j hj hne t hd)
    refine ⟨by simpa using hsz, hF.put ho hi v, ?_, ?_, ?_⟩
    · intro j oj hoj hj e he hb
      rw [hnew] at hj ⊢
      by_cases e1 : i = e.on
      · rw [if_pos e1]
      rw [if_neg e1]
      by_cases e2 : i = j
      · subst e2
        rw [ho] at hoj
        cases hoj
        exact ha e he hb
      · rw [if_neg e2] at hj
        exact hcl j oj hoj hj e he hb
    · intro j hj hjl
      by_cases e2 : i = j
      · subst e2
        cases hd : dstOf ops i with
        | none =>
          have : slotOf ops (a.put o.dst v) i = undef := by unfold slotOf; rw [hd]
          rw [this]
          exact hnone i hd
        | some t => rw [slot_put_same ho hd (by rw [hF.size]; exact hD2 i hi t hd)]; exact hv
      · rw [hnew, if_neg e2] at hjl
        rw [hother j hj (Ne.symm e2)]
        exact hV j hj hjl
    · have e : (fun j => (listed.setIfInBounds i true).getD j false) = (fun j => if i = j then true else listed.getD j false) := funext hnew
      rw [e]
      refine hI' _ hother (fun hne => ?_)
      cases hd : dstOf ops i with
      | none => exact absurd hd hne
      | some t => exact slot_put_same ho hd (by rw [hF.size]; exact hD2 i hi t hd)
  · intro listed a w ⟨hsz, hF, hcl, hV, hI⟩ hr
    have hall : ∀ i, i < ops.size → listed.getD i false = true := by
      intro i
      induction i using Nat.strongRecOn with
      | ind i ih =>
        intro hi
        cases hx : listed.getD i false with
        | true => rfl
        | false =>
          exfalso
          obtain ⟨o, ho⟩ : ∃ o, ops[i]? = some o := ⟨_, Array.getElem?_eq_getElem (by omega)⟩
          have : i ∈ Region.ready .any ops listed := mem_ready.2 ⟨by
            have hs : i < listed.size := by omega
            simpa [Array.getD, hs] using hx, o, ho, fun e he _ => ih _ ((hG i o ho).2 e he) (by have := (hG i o ho).2 e he; omega)⟩
          rw [hr] at this
          cases this
    rw [hF.lay]
    exact hend _ w (fun j hj => hV j hj (hall j hj)) (hInv _ _ _ _ hall hI)
  · simp
  · have hrep : ∀ j, (Array.replicate ops.size false).getD j false = false := fun j => by
      by_cases hs : j < ops.size <;> simp [Array.getD, hs]
    refine ⟨by simp, ⟨rfl, rfl, fun _ _ => rfl⟩, fun j _ _ h => (by rw [hrep] at h; cases h), fun j _ h => (by rw [hrep] at h; cases h), ?_⟩
    have e : (fun j => (Array.replicate ops.size false).getD j false) = fun _ => false := funext hrep
    rw [e]
    exact h0 _
end
end Go.Proofs.Ytjceapbbapofmaa.Q
