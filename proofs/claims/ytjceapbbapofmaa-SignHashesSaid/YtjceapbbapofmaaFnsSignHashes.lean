/- The functions of package sign and of its reference, as printed, answer what the plain functions of SignMath say. -/
import Derived.Test.YtjceapbbapofmaaPSignHashesx1
import Derived.Test.YtjceapbbapofmaaSignMath
namespace Go.Proofs.Ytjceapbbapofmaa.FnsSignHashes
open Go.RowKit Go.Proofs.Ytjceapbbapofmaa.PSignHashes Go.Proofs.YtjceapbbapofmaaW.PrintWords Go.Proofs.YtjceapbbapofmaaW.PrintLast
open Go.Proofs.Ytjceapbbapofmaa.SignMath

theorem Ev.pos {α : Type} {c : Prop} [Decidable c] {g f : Nat → Option α} {r : α} (hc : c) (h : Ev g r) : Ev (fun k => if c then g k else f k) r :=
  h.congr fun _ => if_pos hc
theorem Ev.neg {α : Type} {c : Prop} [Decidable c] {g f : Nat → Option α} {r : α} (hc : ¬ c) (h : Ev f r) : Ev (fun k => if c then g k else f k) r :=
  h.congr fun _ => if_neg hc
theorem Ev.to {α : Type} {g : Nat → Option α} {r q : α} (h : Ev g r) (e : r = q) : Ev g q := e ▸ h

theorem Ev.use0 {α : Type} {g : Nat → Option α} {r : α} (h : ∀ k, g (k + 1) = some r) : Ev g r := Ev.step (f := fun _ => some r) h (Ev.now r)
theorem Ev.use1 {α β : Type} {g : Nat → Option α} {g1 : Nat → Option β} {r : α} {b : β} (h1 : Ev g1 b) (h : ∀ k, g1 k = some b → g (k + 1) = some r) : Ev g r := by
  obtain ⟨K, hK⟩ := h1
  exact ⟨K + 1, fun k hk => by obtain ⟨m, rfl⟩ : ∃ m, k = m + 1 := ⟨k - 1, by omega⟩; exact h m (hK m (by omega))⟩
theorem Ev.use2 {α β γ : Type} {g : Nat → Option α} {g1 : Nat → Option β} {g2 : Nat → Option γ} {r : α} {b : β} {c : γ} (h1 : Ev g1 b) (h2 : Ev g2 c) (h : ∀ k, g1 k = some b → g2 k = some c → g (k + 1) = some r) : Ev g r := by
  obtain ⟨K, hK⟩ := h1
  obtain ⟨M, hM⟩ := h2
  exact ⟨max K M + 1, fun k hk => by obtain ⟨m, rfl⟩ : ∃ m, k = m + 1 := ⟨k - 1, by omega⟩; exact h m (hK m (by omega)) (hM m (by omega))⟩

def okBytes (l : List Int) : Prop := ∀ x ∈ l, 0 ≤ x ∧ x ≤ 255
theorem rd_mem {l : List Int} {i : Nat} (h : i < l.length) : rd l (i : Int) = l[i] := by
  unfold rd
  simp [List.getD_eq_getElem?_getD, h]
theorem okBytes_rd {l : List Int} (ok : okBytes l) {i : Nat} (h : i < l.length) : 0 ≤ rd l (i : Int) ∧ rd l (i : Int) ≤ 255 := by
  rw [rd_mem h]; exact ok _ (List.getElem_mem h)
theorem hsh_take {n : Nat} {l : List Int} {i : Nat} (h : i < l.length) : hsh n (l.take (i + 1)) = hstep (hsh n (l.take i)) (rd l (i : Int)) := by
  rw [List.take_succ_eq_append_getElem h, hsh_snoc, rd_mem h]
theorem hash_l0 (n : Nat) (hn : n < 3911) (l : List Int) (ok : okBytes l) (hl : l.length ≤ 600) : ∀ (d i : Nat), i + d = l.length →
    Ev (fun k => sign_hash.l0 k ((hsh n (l.take i) : Nat) : Int) l (l.length : Int) (i : Int)) ((hsh n l : Nat) : Int)
  | 0, i, hi => by
    refine Ev.step (fun k => rfl) (Ev.neg (by omega) ?_)
    rw [List.take_of_length_le (by omega)]
    exact Ev.now _
  | d + 1, i, hi => by
    refine Ev.step (fun k => rfl) (Ev.pos (by omega) (Ev.pos (by omega) (Ev.pos (by omega) ?_)))
    have hb := okBytes_rd ok (i := i) (by omega)
    have hp := hsh_lt (l.take i) n hn
    have ht := hsh_take (n := n) (l := l) (i := i) (by omega)
    obtain ⟨b, hb0⟩ : ∃ b : Nat, rd l (i : Int) = (b : Int) := ⟨(rd l (i : Int)).toNat, by omega⟩
    have e : Int.tmod (wrap64 (wrap64 (wrap64 (((hsh n (l.take i) : Nat) : Int) * 257) + wrap64 (rd l (i : Int))) + 1)) 3911 = ((hsh n (l.take (i + 1)) : Nat) : Int) := by
      rw [ht, hb0]
      rw [hb0] at hb
      generalize hsh n (l.take i) = x at hp ⊢
      unfold hstep
      rw [Int.toNat_natCast, ← tmod_cast]
      rw [wrap_in (n := (x : Int) * 257) (by omega) (by omega), wrap_in (n := (b : Int)) (by omega) (by omega), wrap_in (n := (x : Int) * 257 + (b : Int)) (by omega) (by omega), wrap_in (by omega) (by omega)]
      rfl
    have e2 : wrap64 ((i : Int) + 1) = ((i + 1 : Nat) : Int) := by rw [wrap_in (by omega) (by omega)]; rfl
    rw [e, e2]
    exact hash_l0 n hn l ok hl d (i + 1) (by omega)
theorem hash_any (r : Nat) (l : List Int) (ok : okBytes l) (hl : l.length ≤ 600) : Ev (fun k => sign_hash.f k (r : Int) l) ((hsh (r % 3911) l : Nat) : Int) := by
  unfold sign_hash.f
  have e : Int.tmod (r : Int) 3911 = ((hsh (r % 3911) (l.take 0) : Nat) : Int) := by
    rw [show (3911 : Int) = ((3911 : Nat) : Int) from rfl, tmod_cast]; rfl
  rw [e]
  exact hash_l0 (r % 3911) (Nat.mod_lt _ (by omega)) l ok hl l.length 0 (by omega)
theorem refHash_l0 (n : Nat) (hn : n < 3911) (l : List Int) (ok : okBytes l) (hl : l.length ≤ 600) : ∀ (d i : Nat), i + d = l.length →
    Ev (fun k => bagnallref_SignHash.l0 k l ((hsh n (l.take i) : Nat) : Int) (i : Int)) (((hsh n l : Nat) : Int), 0)
  | 0, i, hi => by
    refine Ev.step (fun k => rfl) (Ev.neg (by omega) ?_)
    rw [List.take_of_length_le (by omega)]
    exact Ev.now _
  | d + 1, i, hi => by
    refine Ev.step (fun k => rfl) (Ev.pos (by omega) (Ev.pos (by omega) ?_))
    have hb := okBytes_rd ok (i := i) (by omega)
    have hp := hsh_lt (l.take i) n hn
    have ht := hsh_take (n := n) (l := l) (i := i) (by omega)
    obtain ⟨b, hb0⟩ : ∃ b : Nat, rd l (i : Int) = (b : Int) := ⟨(rd l (i : Int)).toNat, by omega⟩
    have e : ∀ v, v = wrap64 (wrap64 (wrap64 (((hsh n (l.take i) : Nat) : Int) * 257) + wrap64 (rd l (i : Int))) + 1) → wrap64 (v - wrap64 (wrap64 (Int.tdiv v 3911) * 3911)) = ((hsh n (l.take (i + 1)) : Nat) : Int) := by
      rintro v rfl
      rw [ht, hb0]
      rw [hb0] at hb
      generalize hsh n (l.take i) = x at hp ⊢
      unfold hstep
      rw [Int.toNat_natCast]
      rw [wrap_in (n := (x : Int) * 257) (by omega) (by omega), wrap_in (n := (b : Int)) (by omega) (by omega), wrap_in (n := (x : Int) * 257 + (b : Int)) (by omega) (by omega), wrap_in (n := (x : Int) * 257 + (b : Int) + 1) (by omega) (by omega)]
      have c : (x : Int) * 257 + (b : Int) + 1 = ((x * 257 + b + 1 : Nat) : Int) := by simp
      rw [c, show (3911 : Int) = ((3911 : Nat) : Int) from rfl, tdiv_cast]
      generalize x * 257 + b + 1 = y at c
      rw [wrap_in (n := ((y / 3911 : Nat) : Int)) (by omega) (by omega), wrap_in (n := ((y / 3911 : Nat) : Int) * ((3911 : Nat) : Int)) (by omega) (by omega), wrap_in (by omega) (by omega)]
      omega
    have e2 : wrap64 ((i : Int) + 1) = ((i + 1 : Nat) : Int) := by rw [wrap_in (by omega) (by omega)]; rfl
    rw [e _ rfl, e2]
    exact refHash_l0 n hn l ok hl d (i + 1) (by omega)
theorem refHash_ok (r : Nat) (hr : r < 7823) (l : List Int) (ok : okBytes l) (hl : l.length ≤ 600) : Ev (fun k => bagnallref_SignHash.f k (r : Int) l) (((hsh (r % 3911) l : Nat) : Int), 0) := by
  unfold bagnallref_SignHash.f
  refine Ev.neg (by omega) (Ev.step (fun k => rfl) ?_)
  refine Ev.neg (by simp; omega) (Ev.neg (by omega) ?_)
  have e : Int.tmod (r : Int) 3911 = ((hsh (r % 3911) (l.take 0) : Nat) : Int) := by
    rw [show (3911 : Int) = ((3911 : Nat) : Int) from rfl, tmod_cast]; rfl
  rw [e]
  exact refHash_l0 (r % 3911) (Nat.mod_lt _ (by omega)) l ok hl l.length 0 (by omega)
end Go.Proofs.Ytjceapbbapofmaa.FnsSignHashes
