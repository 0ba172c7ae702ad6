/- A region that draws its order, by facts: each operation is carried out once, in a world that is a letter; what it leaves in its slot is kept. -/
import Derived.Test.YtjceapbbapofmaaQMt
import Derived.StillTail
namespace Go.Proofs.Ytjceapbbapofmaa.Q
open Go.RowKit Go.Proofs.YtjceapbbapofmaaW.PrintWords Go.Proofs.YtjceapbbapofmaaW.PrintLast Go.Proofs.YtjceapbbapofmaaW.PrintMore
section
variable {P : Program} {ops : Array Oper} {Q : Exit → Act → World → Prop}
theorem count_set {l : List Bool} {i : Nat} (h : l[i]? = some false) : (l.set i true).count false < l.count false := by
  induction l generalizing i with
  | nil => simp at h
  | cons x l ih =>
    cases i with
    | zero =>
      simp at h
      subst h
      simp
    | succ i =>
      simp at h
      have := ih h
      simp only [List.set_cons_succ, List.count_cons]
      omega
theorem getD_false {listed : Array Bool} {i : Nat} (h : listed.getD i true = false) : listed.toList[i]? = some false := by
  rw [Array.getD_eq_getD_getElem?] at h
  rw [Array.getElem?_toList]
  cases hx : listed[i]? with
  | none => rw [hx] at h; simp at h
  | some b => rw [hx] at h; simp at h; rw [h]
/-- Whichever comes up keeps Inv; at the end it gives what is asked. -/
theorem wpAny_inv (Inv : Array Bool → Act → World → Prop)
    (hstep : ∀ listed a w i o, Inv listed a w → ops[i]? = some o → listed.getD i true = false → (∀ e ∈ o.after, Region.binds .any e = true → listed.getD e.on false = true) → wpOp P ops Q i (Inv (listed.setIfInBounds i true)) a w)
    (hend : ∀ listed a w, Inv listed a w → Region.ready .any ops listed = [] → Q .normal a w) :
    ∀ (fuel : Nat) (listed : Array Bool) (a : Act) (w : World), listed.toList.count false ≤ fuel → Inv listed a w → wpAny P .any ops Q fuel listed a w := by
  intro fuel
  induction fuel with
  | zero =>
    intro listed a w hc h
    have hr : Region.ready .any ops listed = [] := by
      refine List.eq_nil_iff_forall_not_mem.2 fun i hi => ?_
      obtain ⟨h0, _⟩ := mem_ready.1 hi
      have := count_set (getD_false h0)
      omega
    exact ⟨hr, hend _ _ _ h hr⟩
  | succ fuel ih =>
    intro listed a w hc h
    refine ⟨hend _ _ _ h, fun i hi => ?_⟩
    obtain ⟨h0, o, ho, ha⟩ := mem_ready.1 hi
    refine wpOp_mono (fun a' w' h' => ih _ a' w' ?_ h') (hstep listed a w i o h ho h0 ha)
    have := count_set (getD_false h0)
    rw [Array.toList_setIfInBounds]
    omega
/-- The slot of an operation. -/
def dstOf (ops : Array Oper) (j : Nat) : Option Tmp := (ops[j]?).bind (·.dst)
def slotOf (ops : Array Oper) (a : Act) (j : Nat) : Value := match dstOf ops j with | some t => a.tmps.getD t undef | none => undef
/-- The region's form: no guards; edges go back; the last one waits for all; each but the last has a slot of its own. -/
def regOk (ops : Array Oper) (n m : Nat) : Bool :=
  ops.size == n + 1 && (List.range (n + 1)).all (fun i => ((ops[i]?).map fun o => o.guard.isNone && o.after.all fun e => decide (e.on < i)).getD false)
  && ((ops[n]?).map fun o => (List.range n).all fun j => o.after.any fun e => Region.binds .any e && e.on == j).getD false
  && (List.range n).all fun i => match dstOf ops i with | none => false | some t => decide (t < m) && (List.range n).all fun j => i == j || dstOf ops j != some t
/-- The frame, with the slots laid. -/
def layF (ops : Array Oper) (n : Nat) (l : List Value) (vs : Nat → Value) : List Value :=
  l.zipIdx.map fun p => match (List.range n).find? (fun j => dstOf ops j == some p.2) with | some j => vs j | none => p.1
structure FrOk (ops : Array Oper) (n : Nat) (a0 a : Act) : Prop where
  size : a.tmps.size = a0.tmps.size
  defers : a.defers = a0.defers
  rest : ∀ k, (∀ j, j < n → dstOf ops j ≠ some k) → a.tmps[k]? = a0.tmps[k]?
theorem FrOk.get {n : Nat} {a0 a : Act} (h : FrOk ops n a0 a) {k : Nat} (hk : ∀ j, j < n → dstOf ops j ≠ some k) : a.tmps.getD k undef = a0.tmps.getD k undef := by
  rw [Array.getD_eq_getD_getElem?, Array.getD_eq_getD_getElem?, h.rest k hk]
theorem FrOk.put {n : Nat} {a0 a : Act} (h : FrOk ops n a0 a) {i : Nat} {o : Oper} (ho : ops[i]? = some o) (hi : i < n) (v : Value) : FrOk ops n a0 (a.put o.dst v) := by
  have hd : dstOf ops i = o.dst := by unfold dstOf; rw [ho]; rfl
  unfold Act.put
  cases hq : o.dst with
  | none => exact h
  | some d =>
    refine ⟨by simpa using h.size, h.defers, fun k hk => ?_⟩
    have hne : d ≠ k := fun e => hk i hi (by rw [hd, hq, e])
    rw [← h.rest k hk]
    simp [hne]
theorem FrOk.lay {n : Nat} {a0 a : Act} (h : FrOk ops n a0 a) : a = ⟨(layF ops n a0.tmps.toList (slotOf ops a)).toArray, a0.defers⟩ := by
  have hd := h.defers
  obtain ⟨t, d⟩ := a
  simp only at hd
  subst hd
  have e : t = (layF ops n a0.tmps.toList (slotOf ops ⟨t, a0.defers⟩)).toArray := by
    apply Array.ext'
    rw [List.toList_toArray]
    refine List.ext_getElem? fun k => ?_
    unfold layF
    rw [List.getElem?_map, List.getElem?_zipIdx]
    have hs := h.size
    simp only at hs
    by_cases hk : k < t.size
    · have hk0 : k < a0.tmps.toList.length := by simpa using hs ▸ hk
      rw [List.getElem?_eq_getElem hk0]
      simp only [Option.map_some, Nat.zero_add]
      cases hf : (List.range n).find? (fun j => dstOf ops j == some k) with
      | none =>
        have := h.rest k (fun j hj e => by
          have := List.find?_eq_none.1 hf j (List.mem_range.2 hj)
          simp [e] at this)
        simp only at this
        rw [Array.getElem?_toList, this, Array.getElem?_eq_getElem (by simpa using hk0)]
        simp
      | some j =>
        have hj := List.find?_some hf
        have hj' : dstOf ops j = some k := by simpa using hj
        rw [Array.getElem?_toList, Array.getElem?_eq_getElem hk]
        simp [slotOf, hj', Array.getD, hk]
    · have hk0 : ¬ k < a0.tmps.toList.length := by rw [Array.length_toList, ← hs]; exact hk
      rw [List.getElem?_eq_none (by rw [Array.length_toList]; exact Nat.not_lt.1 hk), List.getElem?_eq_none (by omega)]
      rfl
  rw [← e]
theorem slot_put_same {i : Nat} {o : Oper} {a : Act} {v : Value} {t : Tmp} (ho : ops[i]? = some o) (ht : dstOf ops i = some t) (hs : t < a.tmps.size) : slotOf ops (a.put o.dst v) i = v := by
  have hd : o.dst = some t := by unfold dstOf at ht; rw [ho] at ht; exact ht
  unfold slotOf
  rw [ht, hd]
  simp [Act.put, Array.getD, hs]
theorem slot_put_other {i j : Nat} {o : Oper} {a : Act} {v : Value} {t : Tmp} (ho : ops[i]? = some o) (ht : dstOf ops i = some t) (hne : dstOf ops j ≠ some t) : slotOf ops (a.put o.dst v) j = slotOf ops a j := by
  have hd : o.dst = some t := by unfold dstOf at ht; rw [ho] at ht; exact ht
  unfold slotOf
  rw [hd]
  cases hj : dstOf ops j with
  | none => rfl
  | some k =>
    have hk : t ≠ k := fun e => hne (by rw [hj, e])
    simp [Act.put, Array.getD_eq_getD_getElem?, hk]
/-- A region that draws its order, by facts. -/
theorem wp_region_facts {id : Nat} {a0 : Act} {w0 : World} (n : Nat) (Pv : Nat → Value → World → Prop) (hm : P.follows .mixedOrders = true) (hok : regOk ops n a0.tmps.size = true)
    (hmono : ∀ j v w w', Pv j v w → Below w.heap.size w w' → Pv j v w')
    (hstep : ∀ i o a w, i < n → ops[i]? = some o → FrOk ops n a0 a → Below w0.heap.size w0 w → (∀ e ∈ o.after, Region.binds .any e = true → Pv e.on (slotOf ops a e.on) w) → o.wp P a w (fun a' w' => ∃ v, a' = a.put o.dst v ∧ Below w.heap.size w w' ∧ Pv i v w') Q)
    (htail : ∀ o vs w, ops[n]? = some o → Below w0.heap.size w0 w → (∀ j, j < n → Pv j (vs j) w) → o.wp P ⟨(layF ops n a0.tmps.toList vs).toArray, a0.defers⟩ w (Q .normal) Q) :
    (Code.region id ops true).wp P Q a0 w0 := by
  unfold regOk at hok
  simp only [Bool.and_eq_true] at hok
  obtain ⟨⟨⟨h1, h2⟩, h3⟩, h4⟩ := hok
  have hn : ops.size = n + 1 := by simpa using h1
  have hG : ∀ (i : Nat) (o : Oper), ops[i]? = some o → o.guard = none ∧ ∀ e ∈ o.after, e.on < i := by
    intro i o ho
    have hlt : i < ops.size := (Array.getElem?_eq_some_iff.1 ho).1
    have := List.all_eq_true.1 h2 i (List.mem_range.2 (by omega))
    rw [ho] at this
    simp only [Option.map_some, Option.getD_some, Bool.and_eq_true] at this
    refine ⟨by simpa using this.1, fun e he => ?_⟩
    have h := Array.all_eq_true_iff_forall_mem.1 this.2 e he
    simpa using h
  have hL : ∀ (o : Oper), ops[n]? = some o → ∀ j, j < n → ∃ e ∈ o.after, Region.binds .any e = true ∧ e.on = j := by
    intro o ho j hj
    rw [ho] at h3
    simp only [Option.map_some, Option.getD_some] at h3
    have h := List.all_eq_true.1 h3 j (List.mem_range.2 hj)
    obtain ⟨i, hi, he⟩ := Array.any_eq_true.1 h
    simp only [Bool.and_eq_true, beq_iff_eq] at he
    exact ⟨_, Array.getElem_mem hi, he.1, he.2⟩
  have hD : ∀ i, i < n → ∃ t, dstOf ops i = some t ∧ t < a0.tmps.size ∧ ∀ j, j < n → j ≠ i → dstOf ops j ≠ some t := by
    intro i hi
    have h := List.all_eq_true.1 h4 i (List.mem_range.2 hi)
    cases hd : dstOf ops i with
    | none => rw [hd] at h; simp at h
    | some t =>
      rw [hd] at h
      simp only [Bool.and_eq_true] at h
      refine ⟨t, rfl, by simpa using h.1, fun j hj hne => ?_⟩
      have h' := List.all_eq_true.1 h.2 j (List.mem_range.2 hj)
      intro hx
      rw [hx] at h'
      simp [Ne.symm hne] at h'
  have hW : ∀ (i : Nat) (o : Oper) (a : Act), ops[i]? = some o → Region.wanted o (yielded ops a.tmps) = true := fun i o a ho => by
    unfold Region.wanted
    rw [(hG i o ho).1]
  refine wp_region_any hm ?_
  have hdr : Below w0.heap.size w0 { w0 with drawn := w0.drawn + 1 } := below_drew (Below.refl _ _)
  refine wpAny_inv (fun listed a w => (listed.size = n + 1) ∧ (((∀ j, j < n + 1 → listed.getD j false = true) ∧ Q .normal a w) ∨ (listed.getD n false = false ∧ FrOk ops n a0 a ∧ Below w0.heap.size w0 w ∧ ∀ j, j < n → listed.getD j false = true → Pv j (slotOf ops a j) w))) ?_ ?_ _ _ _ _ ?_ ?_
  · intro listed a w i o ⟨hsz, hI⟩ ho h0 ha
    have hi : i < n + 1 := by rw [← hn]; exact (Array.getElem?_eq_some_iff.1 ho).1
    have hnew : ∀ j, (listed.setIfInBounds i true).getD j false = if i = j then true else listed.getD j false := fun j => by
      by_cases e : i = j
      · subst e; simp [Array.getD_eq_getD_getElem?, hsz, hi]
      · simp [Array.getD_eq_getD_getElem?, e]
    unfold wpOp
    rw [ho]
    simp only [hW i o a ho, if_true]
    rcases hI with ⟨hl, -⟩ | ⟨hl, hF, hB, hP⟩
    · exfalso
      have hl := hl i hi
      rw [Array.getD_eq_getD_getElem?] at h0 hl
      cases hx : listed[i]? <;> rw [hx] at h0 hl <;> simp_all
    · rcases Nat.lt_or_ge i n with hlt | hge
      · refine .inl (Oper.wp_mono ?_ (hstep i o a w hlt ho hF hB (fun e he hb => hP _ (Nat.lt_trans ((hG i o ho).2 e he) hlt) (ha e he hb))))
        rintro a' w' ⟨v, rfl, hb, hv⟩
        refine ⟨by simpa using hsz, .inr ⟨by rw [hnew, if_neg (by omega)]; exact hl, hF.put ho hlt v, below_step hB hb, fun j hj hjl => ?_⟩⟩
        obtain ⟨t, ht, hts, hto⟩ := hD i hlt
        by_cases e : i = j
        · subst e
          rw [slot_put_same ho ht (by rw [hF.size]; exact hts)]
          exact hv
        · rw [slot_put_other ho ht (hto j hj (Ne.symm e))]
          rw [hnew, if_neg e] at hjl
          exact hmono _ _ _ _ (hP j hj hjl) hb
      · have : i = n := by omega
        subst this
        have hall : ∀ j, j < i → Pv j (slotOf ops a j) w := fun j hj => by
          obtain ⟨e, he, hb, rfl⟩ := hL o ho j hj
          exact hP _ hj (ha e he hb)
        refine .inl (Oper.wp_mono ?_ (by rw [hF.lay]; exact htail o (slotOf ops a) w ho hB hall))
        intro a' w' hq
        refine ⟨by simpa using hsz, .inl ⟨fun j hj => ?_, hq⟩⟩
        rw [hnew]
        by_cases hij : i = j
        · rw [if_pos hij]
        · rw [if_neg hij]
          obtain ⟨e, he, hb, rfl⟩ := hL o ho j (by omega)
          exact ha e he hb
  · intro listed a w ⟨hsz, hI⟩ hr
    rcases hI with ⟨_, hq⟩ | ⟨hl, -, -, -⟩
    · exact hq
    · exfalso
      have hall : ∀ i, i < n + 1 → listed.getD i false = true := by
        intro i
        induction i using Nat.strongRecOn with
        | ind i ih =>
          intro hi
          cases hx : listed.getD i false with
          | true => rfl
          | false =>
            exfalso
            obtain ⟨o, ho⟩ : ∃ o, ops[i]? = some o := ⟨_, Array.getElem?_eq_getElem (by omega)⟩
            have : i ∈ Region.ready .any ops listed := mem_ready.2 ⟨by
              have hs : i < listed.size := by omega
              simpa [Array.getD, hs] using hx, o, ho, fun e he _ => ih _ ((hG i o ho).2 e he) (by have := (hG i o ho).2 e he; omega)⟩
            rw [hr] at this
            cases this
      have := hall n (by omega)
      rw [hl] at this
      cases this
  · simp [hn]
  · refine ⟨by simp [hn], .inr ⟨by simp [Array.getD, hn], ⟨rfl, rfl, fun _ _ => rfl⟩, hdr, fun j hj h => ?_⟩⟩
    have hs : j < ops.size := by omega
    simp [Array.getD, hs] at h
/-- The form of a region with a tail in a forced order: no guards ahead of it; edges go back; each operation ahead has a waiter, and a slot of its own. -/
def regOk2 (ops : Array Oper) (n m : Nat) : Bool :=
  decide (n < ops.size) && Region.sinkB .any ops n && Region.chainB .any ops n
  && (List.range ops.size).all (fun i => ((ops[i]?).map fun o => o.after.all fun e => decide (e.on < i)).getD false)
  && (List.range n).all (fun i => ((ops[i]?).map fun o => o.guard.isNone).getD false)
  && (List.range n).all fun i => match dstOf ops i with | none => false | some t => decide (t < m) && (List.range n).all fun j => i == j || dstOf ops j != some t
/-- A region that draws its order, by facts, with a tail in a forced order. -/
theorem wp_region_tail {id : Nat} {a0 : Act} {w0 : World} (n : Nat) (Pv : Nat → Value → World → Prop) (hm : P.follows .mixedOrders = true) (hok : regOk2 ops n a0.tmps.size = true)
    (hmono : ∀ j v w w', Pv j v w → Below w.heap.size w w' → Pv j v w')
    (hstep : ∀ i o a w, i < n → ops[i]? = some o → FrOk ops n a0 a → Below w0.heap.size w0 w → (∀ e ∈ o.after, Region.binds .any e = true → Pv e.on (slotOf ops a e.on) w) → o.wp P a w (fun a' w' => ∃ v, a' = a.put o.dst v ∧ Below w.heap.size w w' ∧ Pv i v w') Q)
    (htail : ∀ vs w, Below w0.heap.size w0 w → (∀ j, j < n → Pv j (vs j) w) → wpList P ops Q (ops.toList.drop n) ⟨(layF ops n a0.tmps.toList vs).toArray, a0.defers⟩ w) :
    (Code.region id ops true).wp P Q a0 w0 := by
  unfold regOk2 at hok
  simp only [Bool.and_eq_true] at hok
  obtain ⟨⟨⟨⟨⟨h1, hsink⟩, hchain⟩, h2⟩, h3⟩, h4⟩ := hok
  have hn : n < ops.size := of_decide_eq_true h1
  have hB : ∀ (i : Nat) (o : Oper), ops[i]? = some o → ∀ e ∈ o.after, e.on < i := by
    intro i o ho
    have hlt : i < ops.size := (Array.getElem?_eq_some_iff.1 ho).1
    have := List.all_eq_true.1 h2 i (List.mem_range.2 hlt)
    rw [ho] at this
    simp only [Option.map_some, Option.getD_some] at this
    intro e he
    simpa using Array.all_eq_true_iff_forall_mem.1 this e he
  have hG : ∀ (i : Nat) (o : Oper), i < n → ops[i]? = some o → o.guard = none := by
    intro i o hi ho
    have := List.all_eq_true.1 h3 i (List.mem_range.2 hi)
    rw [ho] at this
    simpa using this
  have hD : ∀ i, i < n → ∃ t, dstOf ops i = some t ∧ t < a0.tmps.size ∧ ∀ j, j < n → j ≠ i → dstOf ops j ≠ some t := by
    intro i hi
    have h := List.all_eq_true.1 h4 i (List.mem_range.2 hi)
    cases hd : dstOf ops i with
    | none => rw [hd] at h; simp at h
    | some t =>
      rw [hd] at h
      simp only [Bool.and_eq_true] at h
      refine ⟨t, rfl, by simpa using h.1, fun j hj hne => ?_⟩
      have h' := List.all_eq_true.1 h.2 j (List.mem_range.2 hj)
      intro hx
      rw [hx] at h'
      simp [Ne.symm hne] at h'
  have hW : ∀ (i : Nat) (o : Oper) (a : Act), i < n → ops[i]? = some o → Region.wanted o (yielded ops a.tmps) = true := fun i o a hi ho => by
    unfold Region.wanted
    rw [hG i o hi ho]
  have hS : ∀ i, i < n → ∃ j, j ≤ n ∧ i < j ∧ Region.waitsFor .any ops j i = true := by
    intro i hi
    have h := List.all_eq_true.1 hsink i (List.mem_range.2 hi)
    obtain ⟨j, hj, h⟩ := List.any_eq_true.1 h
    simp only [Bool.and_eq_true, decide_eq_true_eq] at h
    exact ⟨j, by have := List.mem_range.1 hj; omega, h.1, h.2⟩
  have hC : ∀ t, n < t → t < ops.size → Region.waitsFor .any ops t (t - 1) = true := by
    intro t ht hts
    have h := List.all_eq_true.1 hchain t (List.mem_range.2 hts)
    simp only [Bool.or_eq_true, decide_eq_true_eq] at h
    exact h.resolve_left (by omega)
  have hdrop : ∀ t o, ops[t]? = some o → ops.toList.drop t = o :: ops.toList.drop (t + 1) := by
    intro t o ho
    have hlt : t < ops.size := (Array.getElem?_eq_some_iff.1 ho).1
    rw [List.drop_eq_getElem_cons (by simpa using hlt)]
    congr 1
    have := (Array.getElem?_eq_some_iff.1 ho).2
    rw [Array.getElem_toList]
    exact this
  refine wp_region_any hm ?_
  have hdr : Below w0.heap.size w0 { w0 with drawn := w0.drawn + 1 } := below_drew (Below.refl _ _)
  refine wpAny_inv (fun listed a w => listed.size = ops.size ∧ (∀ j o, ops[j]? = some o → listed.getD j false = true → ∀ e ∈ o.after, Region.binds .any e = true → listed.getD e.on false = true) ∧
    ((∃ t, n < t ∧ t ≤ ops.size ∧ (∀ j, j < ops.size → listed.getD j false = decide (j < t)) ∧ wpList P ops Q (ops.toList.drop t) a w) ∨
      ((∀ t, n ≤ t → listed.getD t false = false) ∧ FrOk ops n a0 a ∧ Below w0.heap.size w0 w ∧ ∀ j, j < n → listed.getD j false = true → Pv j (slotOf ops a j) w))) ?_ ?_ _ _ _ _ ?_ ?_
  · intro listed a w i o ⟨hsz, hcl, hI⟩ ho h0 ha
    have hi : i < ops.size := (Array.getElem?_eq_some_iff.1 ho).1
    have h0' : listed.getD i false = false := by
      rw [Array.getD_eq_getD_getElem?] at h0 ⊢
      cases hx : listed[i]? <;> rw [hx] at h0 <;> simp_all
    have hnew : ∀ j, (listed.setIfInBounds i true).getD j false = if i = j then true else listed.getD j false := fun j => by
      by_cases e : i = j
      · subst e; simp [Array.getD_eq_getD_getElem?, hsz, hi]
      · simp [Array.getD_eq_getD_getElem?, e]
    have hcl' : ∀ j o, ops[j]? = some o → (listed.setIfInBounds i true).getD j false = true → ∀ e ∈ o.after, Region.binds .any e = true → (listed.setIfInBounds i true).getD e.on false = true := by
      intro j oj hoj hj e he hb
      rw [hnew] at hj ⊢
      by_cases e1 : i = e.on
      · rw [if_pos e1]
      rw [if_neg e1]
      by_cases e2 : i = j
      · subst e2
        rw [ho] at hoj
        cases hoj
        exact ha e he hb
      · rw [if_neg e2] at hj
        exact hcl j oj hoj hj e he hb
    -- one step of the tail
    have tailStep : ∀ t, n ≤ t → i = t → (∀ j, j < ops.size → listed.getD j false = decide (j < t)) → wpList P ops Q (ops.toList.drop t) a w → wpOp P ops Q i (fun a w => (listed.setIfInBounds i true).size = ops.size ∧ (∀ j o, ops[j]? = some o → (listed.setIfInBounds i true).getD j false = true → ∀ e ∈ o.after, Region.binds .any e = true → (listed.setIfInBounds i true).getD e.on false = true) ∧
        ((∃ t, n < t ∧ t ≤ ops.size ∧ (∀ j, j < ops.size → (listed.setIfInBounds i true).getD j false = decide (j < t)) ∧ wpList P ops Q (ops.toList.drop t) a w) ∨
          ((∀ t, n ≤ t → (listed.setIfInBounds i true).getD t false = false) ∧ FrOk ops n a0 a ∧ Below w0.heap.size w0 w ∧ ∀ j, j < n → (listed.setIfInBounds i true).getD j false = true → Pv j (slotOf ops a j) w))) a w := by
      intro t ht e hl hw
      subst e
      rw [hdrop i o ho] at hw
      have hfin : ∀ a' w', wpList P ops Q (ops.toList.drop (i + 1)) a' w' → (listed.setIfInBounds i true).size = ops.size ∧ (∀ j o, ops[j]? = some o → (listed.setIfInBounds i true).getD j false = true → ∀ e ∈ o.after, Region.binds .any e = true → (listed.setIfInBounds i true).getD e.on false = true) ∧
        ((∃ t, n < t ∧ t ≤ ops.size ∧ (∀ j, j < ops.size → (listed.setIfInBounds i true).getD j false = decide (j < t)) ∧ wpList P ops Q (ops.toList.drop t) a' w') ∨
          ((∀ t, n ≤ t → (listed.setIfInBounds i true).getD t false = false) ∧ FrOk ops n a0 a' ∧ Below w0.heap.size w0 w' ∧ ∀ j, j < n → (listed.setIfInBounds i true).getD j false = true → Pv j (slotOf ops a' j) w')) := by
        intro a' w' h'
        refine ⟨by simpa using hsz, hcl', .inl ⟨i + 1, by omega, by omega, fun j hj => ?_, h'⟩⟩
        rw [hnew]
        by_cases e : i = j
        · subst e; simp
        · rw [if_neg e, hl j hj, Bool.eq_iff_iff]
          simp only [decide_eq_true_eq]
          omega
      unfold wpOp
      rw [ho]
      unfold wpList at hw
      simp only
      split
      · rename_i hwt
        rw [if_pos hwt] at hw
        exact hw.imp (Oper.wp_mono hfin) (fun h => h)
      · rename_i hwt
        rw [if_neg hwt] at hw
        exact hfin _ _ hw
    rcases hI with ⟨t, ht1, ht2, hl, hw⟩ | ⟨hl, hF, hBl, hP⟩
    · have hit : i = t := by
        have h5 : ¬ i < t := by
          intro h
          have := hl i hi
          rw [h0', decide_eq_true h] at this
          cases this
        obtain ⟨oj, hoj, e, he, hb, heo⟩ := Region.waitsFor_spec (hC i (by omega) hi)
        rw [ho] at hoj
        cases hoj
        have h6 := ha e he hb
        rw [heo, hl _ (by omega)] at h6
        have := of_decide_eq_true h6
        omega
      exact tailStep t (by omega) hit hl hw
    · rcases Nat.lt_or_ge i n with hlt | hge
      · unfold wpOp
        rw [ho]
        simp only [hW i o a hlt ho, if_true]
        refine .inl (Oper.wp_mono ?_ (hstep i o a w hlt ho hF hBl (fun e he hb => hP _ (Nat.lt_trans (hB i o ho e he) hlt) (ha e he hb))))
        rintro a' w' ⟨v, rfl, hb, hv⟩
        refine ⟨by simpa using hsz, hcl', .inr ⟨fun t ht => by rw [hnew, if_neg (by omega)]; exact hl t ht, hF.put ho hlt v, below_step hBl hb, fun j hj hjl => ?_⟩⟩
        obtain ⟨t, ht, hts, hto⟩ := hD i hlt
        by_cases e : i = j
        · subst e
          rw [slot_put_same ho ht (by rw [hF.size]; exact hts)]
          exact hv
        · rw [slot_put_other ho ht (hto j hj (Ne.symm e))]
          rw [hnew, if_neg e] at hjl
          exact hmono _ _ _ _ (hP j hj hjl) hb
      · have hin : i = n := by
          rcases Nat.lt_or_ge n i with h | h
          · exfalso
            obtain ⟨oj, hoj, e, he, hb, heo⟩ := Region.waitsFor_spec (hC i h hi)
            rw [ho] at hoj
            cases hoj
            have h6 := ha e he hb
            rw [heo, hl _ (by omega)] at h6
            cases h6
          · omega
        subst hin
        have hallD : ∀ d j, j < i → i - j ≤ d → listed.getD j false = true := by
          intro d
          induction d with
          | zero => intro j hj hd; omega
          | succ d ih =>
            intro j hj hd
            obtain ⟨k, hk, hjk, hwt⟩ := hS j hj
            obtain ⟨ok, hok, e, he, hb, heo⟩ := Region.waitsFor_spec hwt
            rcases Nat.lt_or_ge k i with hki | hki
            · have := hcl k ok hok (ih k hki (by omega)) e he hb
              rwa [heo] at this
            · have : k = i := by omega
              subst this
              rw [ho] at hok
              cases hok
              have := ha e he hb
              rwa [heo] at this
        refine tailStep i (Nat.le_refl _) rfl (fun j hj => ?_) ?_
        · by_cases h : j < i
          · rw [hallD _ j h (Nat.le_refl _), decide_eq_true h]
          · rw [hl j (by omega), decide_eq_false h]
        · rw [hF.lay]
          exact htail (slotOf ops a) w hBl (fun j hj => hP j hj (hallD _ j hj (Nat.le_refl _)))
  · intro listed a w ⟨hsz, hcl, hI⟩ hr
    have hno : ∀ i, i < ops.size → (∀ o, ops[i]? = some o → ∀ e ∈ o.after, Region.binds .any e = true → listed.getD e.on false = true) → listed.getD i false = true := by
      intro i hi ha
      cases hx : listed.getD i false with
      | true => rfl
      | false =>
        exfalso
        have : i ∈ Region.ready .any ops listed := mem_ready.2 ⟨by
          have hs : i < listed.size := by omega
          simpa [Array.getD, hs] using hx, _, Array.getElem?_eq_getElem hi, ha _ (Array.getElem?_eq_getElem hi)⟩
        rw [hr] at this
        cases this
    rcases hI with ⟨t, ht1, ht2, hl, hw⟩ | ⟨hl, -, -, -⟩
    · rcases Nat.lt_or_ge t ops.size with h | h
      · exfalso
        have := hno t h (fun o ho e he _ => by
          have := hB t o ho e he
          rw [hl _ (by omega), decide_eq_true this])
        rw [hl t h, decide_eq_false (by omega)] at this
        cases this
      · rw [List.drop_of_length_le (by simpa using h)] at hw
        exact hw
    · exfalso
      have hall : ∀ i, i < ops.size → listed.getD i false = true := by
        intro i
        induction i using Nat.strongRecOn with
        | ind i ih =>
          intro hi
          exact hno i hi (fun o ho e he _ => ih _ (hB i o ho e he) (by have := hB i o ho e he; omega))
      have := hall n hn
      rw [hl n (Nat.le_refl _)] at this
      cases this
  · simp
  · have hrep : ∀ j, (Array.replicate ops.size false).getD j false = false := fun j => by
      by_cases hs : j < ops.size <;> simp [Array.getD, hs]
    refine ⟨by simp, fun j o _ h => (by rw [hrep] at h; cases h), .inr ⟨fun t _ => hrep t, ⟨rfl, rfl, fun _ _ => rfl⟩, hdr, fun j _ h => (by rw [hrep] at h; cases h)⟩⟩
end
end Go.Proofs.Ytjceapbbapofmaa.Q
