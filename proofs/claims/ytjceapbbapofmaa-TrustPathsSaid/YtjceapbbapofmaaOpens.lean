/- What an argument's reading gives a walk, kind by kind: numbers, bools, strings, slices, structs; with the bounds of the reach. No program. -/
import Derived.Test.YtjceapbbapofmaaWWords
import Derived.Deep.Slices
import Derived.ChangeArms
import Derived.SizedLaws
import Derived.Lib.SmallJoins
namespace Go.Proofs.Ytjceapbbapofmaa.Opens
open Go.ChangeShapes Go.WideShapes Go.RowKit Go.Deep Go.Proofs.YtjceapbbapofmaaW.PrintWords

section
variable {H : Type} (enc : TypeId × Value → H) (P : Program) (w : World) (base : Nat) (spare : Nat → Bool) (held : Bool)

/-- Whatever reads at type t is a thing of the kind d, and is good. -/
def Opens (t : TypeId) {α : Type} (d : Kd α) (ok : α → Prop) : Prop :=
  ∀ n cs x, DataW.trod enc P w base spare held n t cs = some x → (∀ m ∈ x.1.weights P t, m ≤ reachBytes) → ∃ a, d.K w a cs ∧ ok a
end

section
variable {H : Type} {enc : TypeId × Value → H} {P : Program} {w : World} {base : Nat} {spare : Nat → Bool} {held : Bool}

theorem opens_imp {t : TypeId} {α : Type} {d : Kd α} {ok ok' : α → Prop} (h : Opens enc P w base spare held t d ok) (hi : ∀ a, ok a → ok' a) : Opens enc P w base spare held t d ok' :=
  fun n cs x hx hw => let ⟨a, h1, h2⟩ := h n cs x hx hw; ⟨a, h1, hi a h2⟩

theorem opens_iso {t : TypeId} {α β : Type} {d : Kd α} {ok : α → Prop} (f : β → α) (g : α → β) (hfg : ∀ a, f (g a) = a) (h : Opens enc P w base spare held t d ok) : Opens enc P w base spare held t (d.iso f) (fun b => ok (f b)) :=
  fun n cs x hx hw => let ⟨a, h1, h2⟩ := h n cs x hx hw; ⟨g a, by show d.K w (f (g a)) cs; rw [hfg]; exact h1, by show ok (f (g a)); rw [hfg]; exact h2⟩

theorem opens_int {t : TypeId} {k : IntKind} (hu : P.underlying t = some (.int k)) : Opens enc P w base spare held t (Kd.int k) (fun z => (Lit.int k z).wf = true) := by
  intro n cs x hx _
  obtain ⟨z, rfl, _, hz⟩ := DataW.trod_int hu hx
  exact ⟨z, rfl, hz⟩

theorem opens_bool {t : TypeId} (hu : P.underlying t = some .bool) : Opens enc P w base spare held t Kd.bool (fun _ => True) := by
  intro n cs x hx _
  cases n with
  | zero => simp [DataW.trod] at hx
  | succ n =>
    unfold DataW.trod at hx
    rw [hu] at hx
    split at hx <;> simp_all
    rename_i b
    cases b
    · exact .inl rfl
    · exact .inr rfl

theorem opens_string {t : TypeId} (hu : P.underlying t = some .string) : Opens enc P w base spare held t Kd.string (fun s => s.size ≤ 140737488351232) := by
  intro n cs x hx hw
  obtain ⟨s, rfl, rfl, hs⟩ := DataW.trod_string hu hx
  refine ⟨s, rfl, ?_⟩
  have := hw s.data.toList.length (by simp [DataW.weights])
  rw [data_length] at this
  exact this

theorem mem_weightsAll {H : Type} {P : Program} {e : TypeId} {d : DataW H} {n : Nat} (hn : n ∈ d.weights P e) : ∀ {l : List (DataW H)}, d ∈ l → n ∈ DataW.weightsAll P e l
  | _ :: l, .head _ => by simp only [DataW.weightsAll, List.mem_append]; exact .inl hn
  | _ :: l, .tail _ h => by simp only [DataW.weightsAll, List.mem_append]; exact .inr (mem_weightsAll hn h)

theorem list_of {α : Type} {p : Nat → α → Prop} : ∀ n, (∀ i, i < n → ∃ a, p i a) → ∃ l : List α, l.length = n ∧ ∀ i a, l[i]? = some a → p i a
  | 0, _ => ⟨[], rfl, fun i a h => by simp at h⟩
  | n + 1, h => by
    obtain ⟨l, hl, hp⟩ := list_of n (fun i hi => h i (by omega))
    obtain ⟨a, ha⟩ := h n (by omega)
    refine ⟨l ++ [a], by simp [hl], fun i b hb => ?_⟩
    rcases Nat.lt_or_ge i n with hi | hi
    · rw [List.getElem?_append_left (by omega)] at hb
      exact hp i b hb
    · have hlt := (List.getElem?_eq_some_iff.1 hb).1
      rw [List.length_append, List.length_singleton, hl] at hlt
      obtain rfl : i = n := by omega
      rw [List.getElem?_append_right (by omega), hl, Nat.sub_self] at hb
      simp at hb
      exact hb ▸ ha

theorem opens_slice {t e : TypeId} {α : Type} {d : Kd α} {ok : α → Prop} (e' : Nat) (hu : P.underlying t = some (.slice e)) (hsz : P.cellsOf e = d.sz) (h : Opens enc P w base spare held e d ok) :
    Opens enc P w base spare held t (Kd.slice e' d) (fun xs => xs.length ≤ 9223372036854775807 ∧ xs.length * P.bytesOf e ≤ 140737488351232 ∧ ∀ x ∈ xs, ok x) := by
  intro n cs x hx hw
  rcases open_slice hu hx with ⟨rfl, rfl⟩ | ⟨a, len, cap, m, n', D, Pl, rfl, hb, hl, hm, hmm, rfl, hel⟩
  · exact ⟨[], ⟨none, 0, rfl, Nat.le_refl _, rfl, by simp, fun h => absurd h (by simp)⟩, by simp, by simp, by simp⟩
  have hlm : len ≤ m := by rw [hmm]; split <;> omega
  simp only [DataW.weights, hu] at hw
  have hlen := hw _ (List.mem_cons_self ..)
  have each : ∀ i, i < len → ∃ y, (∃ c, c.length = d.sz ∧ d.K w y c ∧ ∀ q u, c[q]? = some u → w.cell? (a.add (i * d.sz + q)) = some u) ∧ ok y := by
    intro i hi
    obtain ⟨cs', h1, h2⟩ := hel i (by omega)
    rw [hsz] at h1
    obtain ⟨_, hcl, hcell⟩ := World.cells?_some h1
    obtain ⟨y, hy, hok⟩ := h n' cs' _ h2 (fun m hm => hw m (List.mem_cons_of_mem _ (List.mem_append_left _ (mem_weightsAll hm (List.mem_map.2 ⟨i, List.mem_range.2 hi, rfl⟩)))))
    refine ⟨y, ⟨cs', hcl, hy, fun q u hq => ?_⟩, hok⟩
    have hq' := (List.getElem?_eq_some_iff.1 hq).1
    have := hcell q (by omega)
    rw [Go.Deep.add_add] at this
    rw [this, hq]
  obtain ⟨xs, hxl, hxs⟩ := list_of len each
  simp only [maxLen] at hm
  refine ⟨xs, ⟨some a, cap, by rw [hxl], by omega, rfl, by omega, fun _ => ⟨a, rfl, fun j p hj => (hxs j p hj).1⟩⟩, by omega, ?_, fun x hx => ?_⟩
  · refine Nat.le_trans (Nat.mul_le_mul_right _ ?_) hlen
    simp only [List.length_map, List.length_range]
    omega
  · obtain ⟨i, hi⟩ := List.mem_iff_getElem?.1 hx
    exact (hxs i x hi).2

theorem opens_struct2 {t : TypeId} {f0 f1 : Field} {α β : Type} {d0 : Kd α} {d1 : Kd β} {ok0 : α → Prop} {ok1 : β → Prop} (hu : P.underlying t = some (.struct #[f0, f1])) (hC : P.cellsOf t = d0.sz + d1.sz)
    (o0 : f0.offset = 0) (c0 : P.cellsOf f0.type = d0.sz) (o1 : f1.offset = d0.sz) (c1 : P.cellsOf f1.type = d1.sz)
    (h0 : Opens enc P w base spare held f0.type d0 ok0) (h1 : Opens enc P w base spare held f1.type d1 ok1) :
    Opens enc P w base spare held t (Kd.pair d0 d1) (fun x => ok0 x.1 ∧ ok1 x.2) := by
  intro n cs x hx hw
  obtain ⟨xs, m, _, rfl, hl, hlen, hf⟩ := DataW.trod_struct hu hx
  simp only [DataW.weights, hu] at hw
  match xs, hlen with
  | [y0, y1], _ =>
    have g0 := hf 0 f0 rfl
    have g1 := hf 1 f1 rfl
    obtain ⟨a, ha, oka⟩ := h0 m _ y0 (by simpa using g0) (fun q hq => hw q (DataW.weights_mem_each (j := 0) rfl rfl q hq))
    obtain ⟨b, hb, okb⟩ := h1 m _ y1 (by simpa using g1) (fun q hq => hw q (DataW.weights_mem_each (j := 1) rfl rfl q hq))
    refine ⟨(a, b), ⟨_, _, ?_, ha, hb⟩, oka, okb⟩
    rw [o0, c0, o1, c1, List.drop_zero, List.take_of_length_le (i := d1.sz) (by rw [List.length_drop]; omega), List.take_append_drop]

/-- A struct's tail: the fields from the i-th on, with their offsets counted from o. -/
def Tail {H : Type} (enc : TypeId × Value → H) (P : Program) (w : World) (base : Nat) (spare : Nat → Bool) (held : Bool) (fs : List Field) (o : Nat) {α : Type} (d : Kd α) (ok : α → Prop) : Prop :=
  ∀ n (cs : List Value) (xs : List (DataW H × List MemPlace)), xs.length = fs.length → cs.length = o + d.sz → (∀ (i : Nat) (f : Field), fs[i]? = some f → DataW.trod enc P w base spare held n f.type ((cs.drop f.offset).take (P.cellsOf f.type)) = xs[i]?) →
    (∀ (i : Nat) (f : Field) (y : DataW H × List MemPlace), fs[i]? = some f → xs[i]? = some y → ∀ m ∈ y.1.weights P f.type, m ≤ reachBytes) → ∃ a, d.K w a (cs.drop o) ∧ ok a

theorem tail_last {f : Field} {o : Nat} {α : Type} {d : Kd α} {ok : α → Prop} (ho : f.offset = o) (hc : P.cellsOf f.type = d.sz) (h : Opens enc P w base spare held f.type d ok) : Tail enc P w base spare held [f] o d ok := by
  intro n cs xs hx hl hf hw
  match xs, hx with
  | [y], _ =>
    have g := hf 0 f rfl
    rw [ho, hc, List.take_of_length_le (by rw [List.length_drop]; omega)] at g
    exact h n _ y (by simpa using g) (hw 0 f y rfl rfl)

theorem tail_cons {f : Field} {fs : List Field} {o : Nat} {α β : Type} {d : Kd α} {d' : Kd β} {ok : α → Prop} {ok' : β → Prop} (ho : f.offset = o) (hc : P.cellsOf f.type = d.sz) (h : Opens enc P w base spare held f.type d ok) (ht : Tail enc P w base spare held fs (o + d.sz) d' ok') :
    Tail enc P w base spare held (f :: fs) o (Kd.pair d d') (fun x => ok x.1 ∧ ok' x.2) := by
  intro n cs xs hx hl hf hw
  match xs, hx with
  | y :: ys, hx =>
    have g := hf 0 f rfl
    rw [ho, hc] at g
    replace hl : cs.length = o + (d.sz + d'.sz) := hl
    obtain ⟨a, ha, oka⟩ := h n _ y (by simpa using g) (hw 0 f y rfl rfl)
    obtain ⟨b, hb, okb⟩ := ht n cs ys (by simpa using hx) (by omega) (fun i f' hi => by have := hf (i + 1) f' (by simpa using hi); simpa using this) (fun i f' y' hi hy => hw (i + 1) f' y' (by simpa using hi) (by simpa using hy))
    refine ⟨(a, b), ⟨_, _, ?_, ha, hb⟩, oka, okb⟩
    rw [← List.drop_drop, List.take_append_drop]

theorem opens_struct {t : TypeId} {fs : Array Field} {α : Type} {d : Kd α} {ok : α → Prop} (hu : P.underlying t = some (.struct fs)) (hC : P.cellsOf t = d.sz) (h : Tail enc P w base spare held fs.toList 0 d ok) : Opens enc P w base spare held t d ok := by
  intro n cs x hx hw
  obtain ⟨xs, m, _, rfl, hl, hlen, hf⟩ := DataW.trod_struct hu hx
  simp only [DataW.weights, hu] at hw
  have := h m cs xs (by simpa using hlen) (by omega) (fun i f hi => hf i f (by simpa using hi)) (fun i f y hi hy q hq => hw q (DataW.weights_mem_each (j := i) (t := f.type) (d := y.1) (by simp at hi; simp [hi]) (by simp [hy]) q hq))
  simpa using this

theorem slice_arg {α : Type} {d : Kd α} {e' : Nat} {xs : List α} {a : Option Addr} {len cap : Nat} (h : (Kd.slice e' d).K w xs (Value.slice a len cap).cells.toList) : len = xs.length ∧ xs.length ≤ cap ∧ d.C w a xs.length xs := by
  obtain ⟨A, c, hc, hl, hC⟩ := h
  simp only [Value.cells, List.cons.injEq, Value.slice.injEq, and_true] at hc
  obtain ⟨rfl, rfl, rfl⟩ := hc
  exact ⟨rfl, hl, hC⟩
theorem agg_arg {α : Type} {d : Kd α} {x : α} {cs : Array Value} {l : List Value} (h : d.K w x (Value.agg cs).cells.toList) (hl : ∀ l', d.K w x l' → l' = l) : cs = l.toArray := by
  have := hl _ h
  simp only [Value.cells] at this
  rw [← this]
theorem pair_k {α β : Type} {d0 : Kd α} {d1 : Kd β} {x : α × β} {l0 l1 : List Value} (h0 : ∀ l', d0.K w x.1 l' → l' = l0) (h1 : ∀ l', d1.K w x.2 l' → l' = l1) : ∀ l', (Kd.pair d0 d1).K w x l' → l' = l0 ++ l1 := by
  rintro l' ⟨c0, c1, rfl, k0, k1⟩
  rw [h0 _ k0, h1 _ k1]
theorem int_k {k : IntKind} {x : Int} : ∀ l', (Kd.int k).K w x l' → l' = [.int k x] := fun _ h => h
theorem string_k {x : ByteArray} : ∀ l', Kd.string.K w x l' → l' = [.string x] := fun _ h => h

/-- From an argument's place. -/
theorem opens_arg {t : TypeId} {α : Type} {d : Kd α} {ok : α → Prop} (h : Opens enc P w base spare held t d ok) {ts : List TypeId} {ds : List (DataW H)} (hsz : (DataW.weightsEach P ts ds).all (· ≤ reachBytes) = true) {j : Nat} {v : Value} {y : DataW H} {ps : List MemPlace}
    (ht : ts[j]? = some t) (hd : ds[j]? = some y) (hv : DataW.Trod enc P w base spare held t v y ps) : ∃ a, d.K w a v.cells.toList ∧ ok a := by
  obtain ⟨n, hn⟩ := hv
  exact h n _ _ hn (fun m hm => by
    have := List.all_eq_true.1 hsz _ (DataW.weights_mem_each ht hd m hm)
    simpa using this)
end
end Go.Proofs.Ytjceapbbapofmaa.Opens
