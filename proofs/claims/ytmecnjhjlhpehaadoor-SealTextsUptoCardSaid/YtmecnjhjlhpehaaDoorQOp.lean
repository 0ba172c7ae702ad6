/- What the reading of a value (type 25, nested in itself) gives a walk: the kind k25, and its bulk. -/
import Derived.Test.YtmecnjhjlhpehaaDoorOpens
import Derived.Test.YtmecnjhjlhpehaaDoorQCk
import Derived.Test.YtmecnjhjlhpehaaDoorRows
import Derived.Test.YtmecnjhjlhpehaaDoorQGl
namespace Go.Proofs.YtmecnjhjlhpehaaDoor.Opens
open Go.ChangeShapes Go.WideShapes Go.RowKit Go.Deep Go.Proofs.YtmecnjhjlhpehaaDoorW.PrintWords Go.Proofs.YtmecnjhjlhpehaaDoor.Q Go.Proofs.YtmecnjhjlhpehaaDoor.Plain
set_option linter.unusedVariables false
set_option linter.unusedSimpArgs false
theorem bulk_one {H : Type} (d : DataW H) : 1 ≤ Rows.uptoBulk d := by
  cases d with
  | lit l => cases l <;> simp [Rows.uptoBulk]
  | nil => simp [Rows.uptoBulk]
  | ptr d => simp [Rows.uptoBulk]
  | slice elems spare => simp [Rows.uptoBulk]
  | agg parts => simp [Rows.uptoBulk]
  | iface t d => simp [Rows.uptoBulk]
  | map entries => simp [Rows.uptoBulk]
  | held h => simp [Rows.uptoBulk]
theorem bulk_part {H : Type} {d : DataW H} {l : List (DataW H)} (h : d ∈ l) : Rows.uptoBulk d ≤ Rows.uptoBulkAll l := by
  induction l with
  | nil => cases h
  | cons x r ih =>
    simp only [Rows.uptoBulkAll]
    cases List.mem_cons.1 h with
    | inl e => subst e; omega
    | inr e => have := ih e; omega
theorem bulk_sum {H α : Type} (f : α → Nat) : ∀ (xs : List α) (es : List (DataW H)), es.length = xs.length → (∀ (i : Nat) a e, xs[i]? = some a → es[i]? = some e → f a ≤ Rows.uptoBulk e) → (xs.map f).sum ≤ Rows.uptoBulkAll es
  | [], es, _, _ => by simp
  | a :: xs, [], h, _ => by simp at h
  | a :: xs, e :: es, h, hp => by
    have h1 := hp 0 a e rfl rfl
    have h2 := bulk_sum f xs es (by simpa using h) (fun i b e' hb he => hp (i + 1) b e' hb he)
    simp only [List.map_cons, List.sum_cons, Rows.uptoBulkAll]
    omega
section
variable {H : Type} {enc : TypeId × Value → H} {P : Program} {w : World} {base : Nat} {spare : Nat → Bool} {held : Bool}
theorem slice_read {t e : TypeId} {α : Type} {d : Kd α} (hu : P.underlying t = some (.slice e)) (hsz : P.cellsOf e = d.sz) (f : Nat → α → Nat) {n : Nat} {cs : List Value} {x : DataW H × List MemPlace} (hx : DataW.trod enc P w base spare held n t cs = some x)
    (h : ∀ m cs' y, Rows.uptoBulk y.1 < Rows.uptoBulk x.1 → DataW.trod enc P w base spare held m e cs' = some y → ∃ a, d.K w a cs' ∧ ∀ j, f j a ≤ Rows.uptoBulk y.1) :
    ∃ (xs : List α) (A : Option Addr) (c : Nat), cs = [.slice A xs.length c] ∧ xs.length ≤ c ∧ d.C w A xs.length xs ∧ ∀ j, (xs.map (f j)).sum + 1 ≤ Rows.uptoBulk x.1 := by
  rcases open_slice hu hx with ⟨rfl, rfl⟩ | ⟨a, len, cap, m, n', D, Pl, rfl, hb, hl, hm, hmm, rfl, hel⟩
  · exact ⟨[], none, 0, rfl, Nat.le_refl _, ⟨rfl, by simp, fun h => absurd h (by simp)⟩, fun j => by simp [Rows.uptoBulk]⟩
  have hlm : len ≤ m := by rw [hmm]; split <;> omega
  have each : ∀ i, i < len → ∃ y, (∃ c, c.length = d.sz ∧ d.K w y c ∧ ∀ q u, c[q]? = some u → w.cell? (a.add (i * d.sz + q)) = some u) ∧ ∀ j, f j y ≤ Rows.uptoBulk (D i) := by
    intro i hi
    obtain ⟨cs', h1, h2⟩ := hel i (by omega)
    rw [hsz] at h1
    obtain ⟨_, hcl, hcell⟩ := World.cells?_some h1
    obtain ⟨y, hy, hok⟩ := h n' cs' _ (by
      have := bulk_part (d := D i) (l := (List.range len).map D) (List.mem_map.2 ⟨i, List.mem_range.2 hi, rfl⟩)
      show Rows.uptoBulk (D i) < Rows.uptoBulk (DataW.slice ((List.range len).map D) ((List.range (m - len)).map fun j => D (len + j)))
      simp only [Rows.uptoBulk]
      omega) h2
    refine ⟨y, ⟨cs', hcl, hy, fun q u hq => ?_⟩, hok⟩
    have hq' := (List.getElem?_eq_some_iff.1 hq).1
    have := hcell q (by omega)
    rw [Go.Deep.add_add] at this
    rw [this, hq]
  obtain ⟨xs, hxl, hxs⟩ := list_of len each
  simp only [maxLen] at hm
  refine ⟨xs, some a, cap, by rw [hxl], by omega, ⟨rfl, by omega, fun _ => ⟨a, rfl, fun j p hj => (hxs j p hj).1⟩⟩, fun j => ?_⟩
  have hs := bulk_sum (f j) xs ((List.range len).map D) (by simp [hxl]) (fun i b e' hb he => by
    have hi : i < len := by have := (List.getElem?_eq_some_iff.1 hb).1; omega
    have e1 : ((List.range len).map D)[i]? = some (D i) := by rw [List.getElem?_map, List.getElem?_range hi]; rfl
    rw [e1] at he
    obtain rfl := Option.some.inj he
    exact (hxs i b hb).2 j)
  simp only [Rows.uptoBulk]
  omega
end
section
variable {H : Type} {enc : TypeId × Value → H} {w : World} {base : Nat} {spare : Nat → Bool} {held : Bool}
theorem opens25 : ∀ (B n : Nat) (cs : List Value) (x : DataW H × List MemPlace), Rows.uptoBulk x.1 ≤ B → DataW.trod enc Tryd.prog w base spare held n 25 cs = some x → ∃ a : S25, k25.K w a cs ∧ ∀ d, bulkF d a ≤ Rows.uptoBulk x.1
  | 0, _, _, x, hB, _ => by have := bulk_one x.1; omega
  | B + 1, n, cs, x, hB, hx => by
    obtain ⟨xs, m, _, rfl, hl, hlen, hf⟩ := DataW.trod_struct Tryd.underlying25 hx
    match xs, hlen with
    | [y0, y1, y2, y3, y4], _ =>
      have g0 := hf 0 _ rfl
      have g1 := hf 1 _ rfl
      have g2 := hf 2 _ rfl
      have g3 := hf 3 _ rfl
      have g4 := hf 4 _ rfl
      have c25 : Tryd.prog.cellsOf 25 = 5 := by kernel_rfl
      have s0 : Tryd.prog.cellsOf 3 = 1 := by kernel_rfl
      have s2 : Tryd.prog.cellsOf 9 = 1 := by kernel_rfl
      have s3 : Tryd.prog.cellsOf 22 = 1 := by kernel_rfl
      have s4 : Tryd.prog.cellsOf 23 = 1 := by kernel_rfl
      rw [c25] at hl
      obtain ⟨v0, v1, v2, v3, v4, rfl⟩ : ∃ v0 v1 v2 v3 v4, cs = [v0, v1, v2, v3, v4] := by
        match cs, hl with
        | [v0, v1, v2, v3, v4], _ => exact ⟨v0, v1, v2, v3, v4, rfl⟩
      simp [s0] at g0
      simp [s0] at g1
      simp [s2] at g2
      simp [s3] at g3
      simp [s4] at g4
      obtain ⟨z0, e0, r0, _⟩ := DataW.trod_int Tryd.underlying3 g0
      obtain ⟨z1, e1, r1, _⟩ := DataW.trod_int Tryd.underlying3 g1
      obtain ⟨z2, e2, r2, _⟩ := DataW.trod_string Tryd.underlying9 g2
      simp only [List.cons.injEq, and_true] at e0 e1 e2
      subst e0 e1 e2
      have hbk : Rows.uptoBulk (DataW.agg ([y0, y1, y2, y3, y4].map (·.1))) = Rows.uptoBulk y0.1 + (Rows.uptoBulk y1.1 + (Rows.uptoBulk y2.1 + (Rows.uptoBulk y3.1 + Rows.uptoBulk y4.1))) + 1 := by
        simp [Rows.uptoBulk, Rows.uptoBulkAll]
      have hsz2 : Rows.uptoBulk y2.1 = z2.size + 1 := by rw [r2]; simp only [Rows.uptoBulk]; rw [show z2.data.toList.length = z2.size from Array.length_toList]
      have b0 := bulk_one y0.1
      have b1 := bulk_one y1.1
      replace hB : Rows.uptoBulk (DataW.agg ([y0, y1, y2, y3, y4].map (·.1))) ≤ B + 1 := hB
      rw [hbk] at hB
      obtain ⟨xs3, A3, q3, h3, l3, C3, S3⟩ := slice_read (d := Kd.string) Tryd.underlying22 (by kernel_rfl) (fun _ => fun k : ByteArray => k.size + 1) g3 (fun m' cs' y _ hy => by
        obtain ⟨s, rfl, rfl, _⟩ := DataW.trod_string Tryd.underlying9 hy
        exact ⟨s, rfl, fun _ => by simp only [Rows.uptoBulk]; rw [show s.data.toList.length = s.size from Array.length_toList]; exact Nat.le_refl _⟩)
      simp only [List.cons.injEq, and_true] at h3
      subst h3
      obtain ⟨xs4, A4, q4, h4, l4, C4, S4⟩ := slice_read (d := k25) Tryd.underlying23 (by kernel_rfl) bulkF g4 (fun m' cs' y hlt hy => opens25 B m' cs' y (by omega) hy)
      simp only [List.cons.injEq, and_true] at h4
      subst h4
      refine ⟨⟨z0, z1, z2, xs3, xs4⟩, k25_mk w _ l3 C3 l4 C4, fun d => ?_⟩
      show _ ≤ Rows.uptoBulk (DataW.agg ([y0, y1, y2, y3, y4].map (·.1)))
      rw [hbk]
      cases d with
      | zero => simp only [bulkF]; omega
      | succ d =>
        have := S4 d
        have := S3 0
        simp only [bulkF]
        omega
end
end Go.Proofs.YtmecnjhjlhpehaaDoor.Opens
