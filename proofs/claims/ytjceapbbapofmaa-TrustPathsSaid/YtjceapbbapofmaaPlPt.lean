/- The least way to a key: breadth first, and round by round: plain. -/
import Derived.Test.YtjceapbbapofmaaPlRe
namespace Go.Proofs.Ytjceapbbapofmaa.Trust
/-! ### the order -/
def lexlt : List Int → List Int → Bool
  | x :: a, y :: b => if x = y then lexlt a b else decide (x < y)
  | _, _ => false
theorem lexlt_irr : ∀ a : List Int, lexlt a a = false
  | [] => rfl
  | x :: a => by simp [lexlt, lexlt_irr a]
theorem lexlt_antisymm : ∀ {a b : List Int}, a.length = b.length → lexlt a b = false → lexlt b a = false → a = b
  | [], [], _, _, _ => rfl
  | [], _ :: _, h, _, _ => by simp at h
  | _ :: _, [], h, _, _ => by simp at h
  | x :: a, y :: b, h, h1, h2 => by
    unfold lexlt at h1 h2
    by_cases e : x = y
    · subst e
      rw [if_pos rfl] at h1 h2
      rw [lexlt_antisymm (by simpa using h) h1 h2]
    · rw [if_neg e] at h1
      rw [if_neg (Ne.symm e)] at h2
      simp at h1 h2
      omega
theorem lexlt_asymm : ∀ {a b : List Int}, lexlt a b = true → lexlt b a = false
  | [], _, h => by simp [lexlt] at h
  | _ :: _, [], h => by simp [lexlt] at h
  | x :: a, y :: b, h => by
    unfold lexlt at h ⊢
    by_cases e : x = y
    · subst e
      rw [if_pos rfl] at h ⊢
      exact lexlt_asymm h
    · rw [if_neg e] at h
      rw [if_neg (Ne.symm e)]
      simp at h ⊢
      omega
/-- Not less, and not less: not less. -/
theorem lexle_trans : ∀ {a b c : List Int}, a.length = b.length → b.length = c.length → lexlt b a = false → lexlt c b = false → lexlt c a = false
  | [], _, c, h1, h2, _, _ => by cases c <;> rfl
  | x :: a, [], _, h1, _, _, _ => by simp at h1
  | x :: a, y :: b, [], _, h2, _, _ => by simp at h2
  | x :: a, y :: b, z :: c, h1, h2, h3, h4 => by
    unfold lexlt at h3 h4 ⊢
    by_cases e1 : y = x
    · subst e1
      by_cases e2 : z = y
      · subst e2
        rw [if_pos rfl] at h3 h4 ⊢
        exact lexle_trans (by simpa using h1) (by simpa using h2) h3 h4
      · rw [if_neg e2] at h4 ⊢
        exact h4
    · rw [if_neg e1] at h3
      by_cases e2 : z = y
      · subst e2
        rw [if_neg e1]
        exact h3
      · rw [if_neg e2] at h4
        simp at h3 h4
        rw [if_neg (by omega)]
        simp
        omega
theorem lexlt_snoc : ∀ {a b : List Int} (s t : Int), a.length = b.length → lexlt (a ++ [s]) (b ++ [t]) = if a = b then decide (s < t) else lexlt a b
  | [], [], s, t, _ => by
    simp only [List.nil_append, lexlt, if_true]
    by_cases e : s = t
    · subst e; simp
    · simp [e]
  | [], _ :: _, _, _, h => by simp at h
  | _ :: _, [], _, _, h => by simp at h
  | x :: a, y :: b, s, t, h => by
    simp only [List.cons_append, lexlt]
    by_cases e : x = y
    · subst e
      rw [if_pos rfl, if_pos rfl, lexlt_snoc s t (by simpa using h)]
      by_cases e2 : a = b
      · simp [e2]
      · simp [e2]
    · rw [if_neg e, if_neg e, if_neg (by simp [e])]
def le (a b : List Int) : Prop := a.length < b.length ∨ (a.length = b.length ∧ lexlt b a = false)
theorem le_refl (a : List Int) : le a a := .inr ⟨rfl, lexlt_irr a⟩
theorem le_trans {a b c : List Int} (h1 : le a b) (h2 : le b c) : le a c := by
  rcases h1 with h1 | ⟨h1, g1⟩
  · rcases h2 with h2 | ⟨h2, g2⟩
    · exact .inl (by omega)
    · exact .inl (by omega)
  · rcases h2 with h2 | ⟨h2, g2⟩
    · exact .inl (by omega)
    · exact .inr ⟨h1.trans h2, lexle_trans h1 h2 g1 g2⟩
theorem le_antisymm {a b : List Int} (h1 : le a b) (h2 : le b a) : a = b := by
  rcases h1 with h1 | ⟨h1, g1⟩
  · rcases h2 with h2 | ⟨h2, g2⟩ <;> omega
  · rcases h2 with h2 | ⟨h2, g2⟩
    · omega
    · exact lexlt_antisymm h1 g2 g1
theorem le_snoc {a b : List Int} (t : Int) (h : le a b) : le (a ++ [t]) (b ++ [t]) := by
  rcases h with h | ⟨h, g⟩
  · exact .inl (by simp; exact h)
  · refine .inr ⟨by simp [h], ?_⟩
    rw [lexlt_snoc t t h.symm]
    by_cases e : b = a
    · rw [if_pos e]; simp
    · rw [if_neg e]; exact g
/-! ### walks -/
inductive Wlk (E : List (Int × Int)) (root : Int) : Int → List Int → Prop
  | root : Wlk E root root [root]
  | step {a b : Int} {p : List Int} : Wlk E root a p → (a, b) ∈ E → Wlk E root b (p ++ [b])
theorem wlk_pos {E : List (Int × Int)} {root t : Int} {p : List Int} (h : Wlk E root t p) : 0 < p.length := by cases h <;> simp
/-! ### breadth first -/
/-- What holds of the ways told so far. -/
structure Ways (E : List (Int × Int)) (root : Int) (F : List (Int × Int)) (P : Int → List Int) : Prop where
  hroot : root ∈ keysF F
  at0 : P root = [root]
  from_ : ∀ e ∈ F, e.1 = root ∨ (e.2 ∈ keysF F ∧ P e.1 = P e.2 ++ [e.1])
  walk : ∀ t ∈ keysF F, Wlk E root t (P t)
  nodup : ∀ t ∈ keysF F, (P t).Nodup ∧ ∀ x ∈ P t, x ∈ keysF F
  least : ∀ t ∈ keysF F, ∀ q, Wlk E root t q → le (P t) q
structure LInv (E : List (Int × Int)) (root : Int) (F : List (Int × Int)) (lv : List Int) (d : Nat) (P : Int → List Int) : Prop where
  ways : Ways E root F P
  keys : (keysF F).Nodup
  sub : ∀ k ∈ lv, k ∈ keysF F ∧ (P k).length = d + 1
  small : ∀ t ∈ keysF F, (P t).length ≤ d + 1
  last : ∀ t ∈ keysF F, (P t).length = d + 1 → t ∈ lv
  all : ∀ t q, Wlk E root t q → q.length ≤ d + 1 → t ∈ keysF F
  up : lv.Pairwise fun a b => lexlt (P a) (P b) = true
/-- Within a level: the keys of dn are done, of k the ones of ts. -/
structure VInv (E : List (Int × Int)) (root : Int) (F : List (Int × Int)) (lv : List Int) (d : Nat) (P : Int → List Int) (F' : List (Int × Int)) (next : List Int) (P' : Int → List Int) (Bef : Int → List Int → Prop) : Prop where
  keys : keysF F' = keysF F ++ next
  nodup : (keysF F').Nodup
  old : ∀ t ∈ keysF F, P' t = P t
  from_ : ∀ e ∈ F', e.1 = root ∨ (e.2 ∈ keysF F' ∧ P' e.1 = P' e.2 ++ [e.1])
  new : ∀ t ∈ next, ∃ k ∈ lv, (k, t) ∈ E ∧ P' t = P k ++ [t] ∧ ∀ k' ∈ lv, (k', t) ∈ E → lexlt (P k') (P k) = false
  up : next.Pairwise fun a b => lexlt (P' a) (P' b) = true
  bef : ∀ t ∈ next, Bef t (P' t)
theorem vinv_mono {E : List (Int × Int)} {root : Int} {F : List (Int × Int)} {lv : List Int} {d : Nat} {P : Int → List Int} {F' : List (Int × Int)} {next : List Int} {P' : Int → List Int} {B B' : Int → List Int → Prop} (h : VInv E root F lv d P F' next P' B) (hb : ∀ t p, B t p → B' t p) : VInv E root F lv d P F' next P' B' :=
  ⟨h.keys, h.nodup, h.old, h.from_, h.new, h.up, fun t ht => hb _ _ (h.bef t ht)⟩
/-- What comes ahead of a way by k to t. -/
def Ahead (P : Int → List Int) (dn : List Int) (k : Int) (ts : List Int) (t : Int) (p : List Int) : Prop := (∃ k' ∈ dn, p = P k' ++ [t]) ∨ (p = P k ++ [t] ∧ t ∈ ts)
section
variable {E : List (Int × Int)} {rf : Int → List Int} {root : Int} {F : List (Int × Int)} {lv : List Int} {d : Nat} {P : Int → List Int}
theorem visit_inv (hrf : ∀ k t, t ∈ rf k ↔ (k, t) ∈ E) (hL : LInv E root F lv d P) {dn rest : List Int} {k : Int} (hlv : lv = dn ++ k :: rest) {ts us : List Int} {t : Int} (hts : rf k = ts ++ t :: us) (hsort : (rf k).Pairwise (· ≤ ·))
    {F' : List (Int × Int)} {next : List Int} {P' : Int → List Int} (h : VInv E root F lv d P F' next P' (Ahead P dn k ts)) (hdone : ∀ k' ∈ dn, ∀ u ∈ rf k', u ∈ keysF F') :
    ∃ P'', VInv E root F lv d P (visit k (F', next) t).1 (visit k (F', next) t).2 P'' (Ahead P dn k (ts ++ [t])) := by
  have hB : ∀ (u : Int) (p : List Int), Ahead P dn k ts u p → Ahead P dn k (ts ++ [t]) u p := fun u p hb => by
    rcases hb with hb | ⟨hb, hm⟩
    · exact .inl hb
    · exact .inr ⟨hb, List.mem_append_left _ hm⟩
  unfold visit
  by_cases hm : t ∈ keysF F'
  · rw [if_pos hm]
    exact ⟨P', vinv_mono h hB⟩
  · rw [if_neg hm]
    have hk : k ∈ lv := by rw [hlv]; simp
    have hkF := (hL.sub k hk).1
    have hkt : t ≠ k := fun e => hm (by rw [h.keys, e]; exact List.mem_append_left _ hkF)
    have hE : (k, t) ∈ E := (hrf k t).1 (by rw [hts]; simp)
    have eK : keysF (F' ++ [(t, k)]) = keysF F' ++ [t] := by simp [keysF]
    have hne : ∀ u ∈ keysF F', u ≠ t := fun u hu e => hm (e ▸ hu)
    have hoF : ∀ u ∈ keysF F, u ∈ keysF F' := fun u hu => by rw [h.keys]; exact List.mem_append_left _ hu
    have hnF : ∀ u ∈ next, u ∈ keysF F' := fun u hu => by rw [h.keys]; exact List.mem_append_right _ hu
    have hup := hL.up
    rw [hlv, List.pairwise_append, List.pairwise_cons] at hup
    refine ⟨fun x => if x = t then P k ++ [t] else P' x, ?_, ?_, ?_, ?_, ?_, ?_, ?_⟩
    · show keysF (F' ++ [(t, k)]) = _
      rw [eK, h.keys, List.append_assoc]
    · show (keysF (F' ++ [(t, k)])).Nodup
      rw [eK, List.nodup_append]
      exact ⟨h.nodup, by simp, fun a ha b hb => by simp only [List.mem_singleton] at hb; rw [hb]; exact hne a ha⟩
    · intro u hu
      rw [if_neg (hne u (hoF u hu))]
      exact h.old u hu
    · intro e he
      rcases List.mem_append.1 he with he | he
      · have he1 : e.1 ∈ keysF F' := List.mem_map.2 ⟨e, he, rfl⟩
        rcases h.from_ e he with h1 | ⟨h1, h2⟩
        · exact .inl h1
        · refine .inr ⟨by show _ ∈ keysF (F' ++ [(t, k)]); rw [eK]; exact List.mem_append_left _ h1, ?_⟩
          rw [if_neg (hne _ he1), if_neg (hne _ h1)]
          exact h2
      · simp only [List.mem_singleton] at he
        subst he
        refine .inr ⟨by show _ ∈ keysF (F' ++ [(t, k)]); rw [eK]; exact List.mem_append_left _ (hoF k hkF), ?_⟩
        simp only [if_true]
        rw [if_neg (fun e => hkt e.symm), h.old k hkF]
    · intro u hu
      rcases List.mem_append.1 hu with hu | hu
      · rw [if_neg (hne u (hnF u hu))]
        exact h.new u hu
      · simp only [List.mem_singleton] at hu
        subst hu
        refine ⟨k, hk, hE, by simp, fun k' hk' hE' => ?_⟩
        rw [hlv] at hk'
        rcases List.mem_append.1 hk' with h1 | h1
        · exact absurd (hdone k' h1 u ((hrf k' u).2 hE')) hm
        · rcases List.mem_cons.1 h1 with rfl | h1
          · exact lexlt_irr _
          · exact lexlt_asymm (hup.2.1.1 k' h1)
    · show (next ++ [t]).Pairwise _
      rw [List.pairwise_append]
      refine ⟨h.up.imp_of_mem fun {a b} ha hb hab => ?_, by simp, fun a ha b hb => ?_⟩
      · rw [if_neg (hne a (hnF a ha)), if_neg (hne b (hnF b hb))]
        exact hab
      · simp only [List.mem_singleton] at hb
        subst hb
        rw [if_neg (hne a (hnF a ha)), if_pos rfl]
        have hlen : ∀ k' ∈ lv, (P k').length = (P k).length := fun k' hk' => by rw [(hL.sub k' hk').2, (hL.sub k hk).2]
        rcases h.bef a ha with ⟨k', hk', e⟩ | ⟨e, hmt⟩
        · rw [e, lexlt_snoc _ _ (hlen k' (by rw [hlv]; exact List.mem_append_left _ hk'))]
          have hlt := hup.2.2 k' hk' k (List.mem_cons_self ..)
          rw [if_neg (fun e => by rw [e, lexlt_irr] at hlt; cases hlt)]
          exact hlt
        · rw [e, lexlt_snoc _ _ rfl, if_pos rfl]
          have hle : a ≤ b := by
            rw [hts, List.pairwise_append] at hsort
            exact hsort.2.2 a hmt b (List.mem_cons_self ..)
          have := hne a (hnF a ha)
          exact decide_eq_true (by omega)
    · intro u hu
      rcases List.mem_append.1 hu with hu | hu
      · rw [if_neg (hne u (hnF u hu))]
        exact hB _ _ (h.bef u hu)
      · simp only [List.mem_singleton] at hu
        subst hu
        exact .inr ⟨by simp, by simp⟩
/-- All keys that k vouches for. -/
theorem visitK_inv (hrf : ∀ k t, t ∈ rf k ↔ (k, t) ∈ E) (hL : LInv E root F lv d P) {dn rest : List Int} {k : Int} (hlv : lv = dn ++ k :: rest) (hsort : (rf k).Pairwise (· ≤ ·)) :
    ∀ (us ts : List Int) (F' : List (Int × Int)) (next : List Int) (P' : Int → List Int), rf k = ts ++ us → VInv E root F lv d P F' next P' (Ahead P dn k ts) → (∀ k' ∈ dn, ∀ u ∈ rf k', u ∈ keysF F') → (∀ u ∈ ts, u ∈ keysF F') →
      ∃ P'', VInv E root F lv d P (us.foldl (visit k) (F', next)).1 (us.foldl (visit k) (F', next)).2 P'' (Ahead P dn k (rf k)) ∧ (∀ k' ∈ dn, ∀ u ∈ rf k', u ∈ keysF (us.foldl (visit k) (F', next)).1) ∧ (∀ u ∈ rf k, u ∈ keysF (us.foldl (visit k) (F', next)).1)
  | [], ts, F', next, P', hts, h, hd, ht => by
    rw [List.append_nil] at hts
    subst hts
    exact ⟨P', h, hd, ht⟩
  | t :: us, ts, F', next, P', hts, h, hd, ht => by
    obtain ⟨P1, h1⟩ := visit_inv hrf hL hlv hts hsort h hd
    have hsub : ∀ u ∈ keysF F', u ∈ keysF (visit k (F', next) t).1 := fun u hu => by
      unfold visit
      split
      · exact hu
      · simp only [keysF, List.map_append, List.mem_append]; exact .inl hu
    have hin : t ∈ keysF (visit k (F', next) t).1 := by
      unfold visit
      split
      · assumption
      · simp [keysF]
    rw [List.foldl_cons]
    exact visitK_inv hrf hL hlv hsort us (ts ++ [t]) (visit k (F', next) t).1 (visit k (F', next) t).2 P1 (by rw [hts]; simp) h1 (fun k' hk' u hu => hsub u (hd k' hk' u hu)) (fun u hu => by
      rcases List.mem_append.1 hu with hu | hu
      · exact hsub u (ht u hu)
      · simp only [List.mem_singleton] at hu; rw [hu]; exact hin)
theorem visitL_inv (hrf : ∀ k t, t ∈ rf k ↔ (k, t) ∈ E) (hsort : ∀ k, (rf k).Pairwise (· ≤ ·)) (hL : LInv E root F lv d P) :
    ∀ (rest dn : List Int) (F' : List (Int × Int)) (next : List Int) (P' : Int → List Int), lv = dn ++ rest → VInv E root F lv d P F' next P' (fun t p => ∃ k' ∈ dn, p = P k' ++ [t]) → (∀ k' ∈ dn, ∀ u ∈ rf k', u ∈ keysF F') →
      ∃ P'', VInv E root F lv d P (rest.foldl (visitK rf) (F', next)).1 (rest.foldl (visitK rf) (F', next)).2 P'' (fun _ _ => True) ∧ (∀ k' ∈ lv, ∀ u ∈ rf k', u ∈ keysF (rest.foldl (visitK rf) (F', next)).1)
  | [], dn, F', next, P', hlv, h, hd => by
    rw [List.append_nil] at hlv
    subst hlv
    exact ⟨P', vinv_mono h (fun _ _ _ => trivial), hd⟩
  | k :: rest, dn, F', next, P', hlv, h, hd => by
    obtain ⟨P1, h1, h2, h3⟩ := visitK_inv hrf hL hlv (hsort k) (rf k) [] F' next P' rfl (vinv_mono h (fun t p hb => .inl hb)) hd (fun u hu => by cases hu)
    rw [List.foldl_cons]
    refine visitL_inv hrf hsort hL rest (dn ++ [k]) (visitK rf (F', next) k).1 (visitK rf (F', next) k).2 P1 (by rw [hlv]; simp) (vinv_mono h1 (fun t p hb => ?_)) (fun k' hk' u hu => ?_)
    · rcases hb with ⟨k', hk', e⟩ | ⟨e, _⟩
      · exact ⟨k', List.mem_append_left _ hk', e⟩
      · exact ⟨k, by simp, e⟩
    · rcases List.mem_append.1 hk' with hk' | hk'
      · exact h2 k' hk' u hu
      · simp only [List.mem_singleton] at hk'
        subst hk'
        exact h3 u hu
/-- A level. -/
theorem linv_step (hrf : ∀ k t, t ∈ rf k ↔ (k, t) ∈ E) (hsort : ∀ k, (rf k).Pairwise (· ≤ ·)) (hL : LInv E root F lv d P) : ∃ P', LInv E root (visitL rf F lv).1 (visitL rf F lv).2 (d + 1) P' := by
  obtain ⟨P', h, hall⟩ := visitL_inv hrf hsort hL lv [] F [] P rfl ⟨by simp, hL.keys, fun _ _ => rfl, hL.ways.from_, (fun t ht => by cases ht), List.Pairwise.nil, (fun t ht => by cases ht)⟩ (fun k' hk' => by cases hk')
  change VInv E root F lv d P (visitL rf F lv).1 (visitL rf F lv).2 P' (fun _ _ => True) at h
  change ∀ k' ∈ lv, ∀ u ∈ rf k', u ∈ keysF (visitL rf F lv).1 at hall
  generalize (visitL rf F lv).1 = F' at *
  generalize (visitL rf F lv).2 = next at *
  have hin : ∀ t, t ∈ keysF F' ↔ t ∈ keysF F ∨ t ∈ next := fun t => by rw [h.keys, List.mem_append]
  have hdis : ∀ t ∈ next, t ∉ keysF F := fun t ht ho => by
    have := h.nodup
    rw [h.keys, List.nodup_append] at this
    exact this.2.2 t ho t ht rfl
  have hlen : ∀ t ∈ next, (P' t).length = d + 2 := fun t ht => by
    obtain ⟨k, hk, _, e, _⟩ := h.new t ht
    rw [e, List.length_append, (hL.sub k hk).2]
    rfl
  -- a walk that is one longer
  have key : ∀ t q, Wlk E root t q → q.length ≤ d + 2 → t ∈ keysF F ∨ ∃ k q0, q = q0 ++ [t] ∧ q0.length = d + 1 ∧ Wlk E root k q0 ∧ k ∈ lv ∧ (k, t) ∈ E := by
    intro t q hq hql
    cases hq with
    | root => exact .inl hL.ways.hroot
    | @step a b p hp he =>
      rw [List.length_append, List.length_singleton] at hql
      by_cases h1 : p.length < d + 1
      · exact .inl (hL.all t (p ++ [t]) (.step hp he) (by rw [List.length_append, List.length_singleton]; omega))
      · have ha := hL.all a p hp (by omega)
        by_cases h2 : (P a).length = d + 1
        · exact .inr ⟨a, p, rfl, by omega, hp, hL.last a ha h2, he⟩
        · have := hL.small a ha
          exact .inl (hL.all t (P a ++ [t]) (.step (hL.ways.walk a ha) he) (by rw [List.length_append, List.length_singleton]; omega))
  refine ⟨P', ⟨⟨(hin _).2 (.inl hL.ways.hroot), ?_, h.from_, ?_, ?_, ?_⟩, h.nodup, ?_, ?_, ?_, ?_, h.up⟩⟩
  · rw [h.old _ hL.ways.hroot]; exact hL.ways.at0
  · intro t ht
    rcases (hin t).1 ht with ht | ht
    · rw [h.old t ht]; exact hL.ways.walk t ht
    · obtain ⟨k, hk, he, e, _⟩ := h.new t ht
      rw [e]
      exact .step (hL.ways.walk k (hL.sub k hk).1) he
  · intro t ht
    rcases (hin t).1 ht with ht | ht
    · rw [h.old t ht]
      exact ⟨(hL.ways.nodup t ht).1, fun x hx => (hin x).2 (.inl ((hL.ways.nodup t ht).2 x hx))⟩
    · obtain ⟨k, hk, he, e, _⟩ := h.new t ht
      have hn := hL.ways.nodup k (hL.sub k hk).1
      rw [e]
      refine ⟨?_, fun x hx => ?_⟩
      · rw [List.nodup_append]
        exact ⟨hn.1, by simp, fun a ha b hb => by simp only [List.mem_singleton] at hb; rw [hb]; exact fun e' => hdis t ht (e' ▸ hn.2 a ha)⟩
      · rcases List.mem_append.1 hx with hx | hx
        · exact (hin x).2 (.inl (hn.2 x hx))
        · simp only [List.mem_singleton] at hx; rw [hx]; exact (hin t).2 (.inr ht)
  · intro t ht q hq
    rcases (hin t).1 ht with ht | ht
    · rw [h.old t ht]; exact hL.ways.least t ht q hq
    · by_cases hql : q.length ≤ d + 2
      · rcases key t q hq hql with h1 | ⟨k', q0, rfl, hq0, hw, hk', he'⟩
        · exact absurd h1 (hdis t ht)
        · obtain ⟨k, hk, he, e, hmin⟩ := h.new t ht
          have hk1 := (hL.sub k hk).2
          have hk2 := (hL.sub k' hk').2
          rw [e]
          have h1 : le (P k) (P k') := .inr ⟨by omega, hmin k' hk' he'⟩
          exact le_snoc t (le_trans h1 (hL.ways.least k' (hL.sub k' hk').1 q0 hw))
      · exact .inl (by rw [hlen t ht]; omega)
  · intro k hk
    exact ⟨(hin k).2 (.inr hk), hlen k hk⟩
  · intro t ht
    rcases (hin t).1 ht with ht | ht
    · rw [h.old t ht]; have := hL.small t ht; omega
    · rw [hlen t ht]; exact Nat.le_refl _
  · intro t ht hl
    rcases (hin t).1 ht with ht | ht
    · rw [h.old t ht] at hl; have := hL.small t ht; omega
    · exact ht
  · intro t q hq hql
    rcases key t q hq hql with h1 | ⟨k, q0, rfl, hq0, hw, hk, he⟩
    · exact (hin t).2 (.inl h1)
    · exact hall k hk t ((hrf k t).2 he)
theorem linv_start (E : List (Int × Int)) (root : Int) : LInv E root [(root, root)] [root] 0 (fun _ => [root]) := by
  have h1 : keysF [(root, root)] = [root] := rfl
  have hm : ∀ t ∈ keysF [(root, root)], t = root := fun t ht => by rw [h1] at ht; simpa using ht
  have hw : ∀ t q, Wlk E root t q → q.length ≤ 1 → t = root ∧ q = [root] := fun t q hq hl => by
    cases hq with
    | root => exact ⟨rfl, rfl⟩
    | step hp _ => have := wlk_pos hp; rw [List.length_append, List.length_singleton] at hl; omega
  refine ⟨⟨by rw [h1]; simp, rfl, fun e he => .inl (by simp at he; rw [he]), fun t ht => by rw [hm t ht]; exact .root, fun t ht => ⟨by simp, fun x hx => by rw [h1]; exact hx⟩, fun t ht q hq => ?_⟩, by rw [h1]; simp, fun k hk => ⟨by rw [h1]; exact hk, rfl⟩, fun t ht => by simp, fun t ht _ => by rw [hm t ht]; simp, fun t q hq hl => ?_, by simp⟩
  · by_cases hl : q.length ≤ 1
    · rw [(hw t q hq hl).2]; exact le_refl _
    · exact .inl (by simp; omega)
  · rw [(hw t q hq (by omega)).1, h1]; simp
/-- At the end of the walk. -/
theorem fin_ways (hrf : ∀ k t, t ∈ rf k ↔ (k, t) ∈ E) (hsort : ∀ k, (rf k).Pairwise (· ≤ ·)) {R : List (Int × Int)} : ∀ (n : Nat) (F : List (Int × Int)) (lv : List Int) (d : Nat) (P : Int → List Int), Fin rf R n F lv → LInv E root F lv d P → ∃ P', Ways E root R P' ∧ (keysF R).Nodup
  | 0, F, lv, d, P, hf, h => by
    obtain ⟨_, rfl⟩ := hf
    exact ⟨P, h.ways, h.keys⟩
  | n + 1, F, lv, d, P, hf, h => by
    by_cases hl : lv = []
    · simp only [Fin, if_pos hl] at hf
      subst hf
      exact ⟨P, h.ways, h.keys⟩
    · simp only [Fin, if_neg hl] at hf
      obtain ⟨P1, h1⟩ := linv_step hrf hsort h
      exact fin_ways hrf hsort n _ _ (d + 1) P1 hf h1
end
/-! ### round by round -/
def better (a b : List Int) : Bool := decide (a.length < b.length) || (decide (a.length = b.length) && lexlt a b)
theorem better_le {a b : List Int} (h : better a b = true) : le a b := by
  unfold better at h
  simp only [Bool.or_eq_true, Bool.and_eq_true, decide_eq_true_eq] at h
  rcases h with h | ⟨h, g⟩
  · exact .inl h
  · exact .inr ⟨h, lexlt_asymm g⟩
theorem better_not {a b : List Int} (h : better a b = false) : le b a := by
  unfold better at h
  simp only [Bool.or_eq_false_iff, Bool.and_eq_false_iff, decide_eq_false_iff_not] at h
  obtain ⟨h1, h2⟩ := h
  by_cases e : b.length < a.length
  · exact .inl e
  · refine .inr ⟨by omega, ?_⟩
    rcases h2 with h2 | h2
    · omega
    · exact h2
abbrev Best := Int → Option (List Int)
def put (b : Best) (t : Int) (w : List Int) : Best := fun x => if x = t then some w else b x
def relax (b : Best) (e : Int × Int) : Best :=
  match b e.1 with
  | none => b
  | some p => match b e.2 with
    | none => put b e.2 (p ++ [e.2])
    | some q => if better (p ++ [e.2]) q = true then put b e.2 (p ++ [e.2]) else b
def bround (E : List (Int × Int)) (b : Best) : Best := E.foldl relax b
def brounds (E : List (Int × Int)) : Nat → Best → Best
  | 0, b => b
  | n + 1, b => bround E (brounds E n b)
def best0 (root : Int) : Best := put (fun _ => none) root [root]
def Mono (b b' : Best) : Prop := ∀ t p, b t = some p → ∃ p', b' t = some p' ∧ le p' p
theorem Mono.refl (b : Best) : Mono b b := fun _ p h => ⟨p, h, le_refl p⟩
theorem Mono.trans {a b c : Best} (h1 : Mono a b) (h2 : Mono b c) : Mono a c := fun t p h => by
  obtain ⟨p1, g1, l1⟩ := h1 t p h
  obtain ⟨p2, g2, l2⟩ := h2 t p1 g1
  exact ⟨p2, g2, le_trans l2 l1⟩
theorem relax_none {b : Best} {e : Int × Int} (h : b e.1 = none) : relax b e = b := by unfold relax; rw [h]
theorem relax_new {b : Best} {e : Int × Int} {p : List Int} (h : b e.1 = some p) (h2 : b e.2 = none) : relax b e = put b e.2 (p ++ [e.2]) := by unfold relax; rw [h, h2]
theorem relax_old {b : Best} {e : Int × Int} {p q : List Int} (h : b e.1 = some p) (h2 : b e.2 = some q) : relax b e = if better (p ++ [e.2]) q = true then put b e.2 (p ++ [e.2]) else b := by unfold relax; rw [h, h2]
theorem relax_mono (b : Best) (e : Int × Int) : Mono b (relax b e) := by
  intro t p h
  cases h1 : b e.1 with
  | none => rw [relax_none h1]; exact ⟨p, h, le_refl p⟩
  | some w =>
    cases h2 : b e.2 with
    | none =>
      rw [relax_new h1 h2]
      unfold put
      by_cases e1 : t = e.2
      · rw [e1, h2] at h; cases h
      · rw [if_neg e1]; exact ⟨p, h, le_refl p⟩
    | some q =>
      rw [relax_old h1 h2]
      by_cases hb : better (w ++ [e.2]) q = true
      · rw [if_pos hb]
        unfold put
        by_cases e1 : t = e.2
        · rw [if_pos e1]
          rw [e1, h2] at h
          cases h
          exact ⟨_, rfl, better_le hb⟩
        · rw [if_neg e1]; exact ⟨p, h, le_refl p⟩
      · rw [if_neg hb]; exact ⟨p, h, le_refl p⟩
theorem relax_edge (b : Best) (e : Int × Int) {p : List Int} (h : b e.1 = some p) : ∃ p', relax b e e.2 = some p' ∧ le p' (p ++ [e.2]) := by
  cases h2 : b e.2 with
  | none => rw [relax_new h h2]; exact ⟨_, by unfold put; rw [if_pos rfl], le_refl _⟩
  | some q =>
    rw [relax_old h h2]
    by_cases hb : better (p ++ [e.2]) q = true
    · rw [if_pos hb]; exact ⟨_, by unfold put; rw [if_pos rfl], le_refl _⟩
    · rw [if_neg hb]; exact ⟨q, h2, better_not (by simpa using hb)⟩
theorem fold_mono : ∀ (l : List (Int × Int)) (b : Best), Mono b (l.foldl relax b)
  | [], b => Mono.refl b
  | e :: l, b => (relax_mono b e).trans (fold_mono l _)
def Snd (E : List (Int × Int)) (root : Int) (b : Best) : Prop := ∀ t p, b t = some p → Wlk E root t p
theorem relax_snd {E : List (Int × Int)} {root : Int} {b : Best} {e : Int × Int} (h : Snd E root b) (he : e ∈ E) : Snd E root (relax b e) := by
  intro t p
  have hp : ∀ q, b e.1 = some q → ∀ t p, put b e.2 (q ++ [e.2]) t = some p → Wlk E root t p := fun q hq t p ht => by
    unfold put at ht
    by_cases e1 : t = e.2
    · rw [if_pos e1] at ht
      cases ht
      rw [e1]
      exact .step (h _ _ hq) he
    · rw [if_neg e1] at ht
      exact h t p ht
  cases h1 : b e.1 with
  | none => rw [relax_none h1]; exact h t p
  | some w =>
    cases h2 : b e.2 with
    | none => rw [relax_new h1 h2]; exact hp w h1 t p
    | some q =>
      rw [relax_old h1 h2]
      split
      · exact hp w h1 t p
      · exact h t p
theorem fold_snd {E : List (Int × Int)} {root : Int} : ∀ (l : List (Int × Int)) (b : Best), (∀ e ∈ l, e ∈ E) → Snd E root b → Snd E root (l.foldl relax b)
  | [], _, _, h => h
  | e :: l, _, hl, h => fold_snd l _ (fun x hx => hl x (List.mem_cons_of_mem _ hx)) (relax_snd h (hl e (List.mem_cons_self ..)))
def Cov (E : List (Int × Int)) (root : Int) (n : Nat) (b : Best) : Prop := ∀ t q, Wlk E root t q → q.length ≤ n + 1 → ∃ p, b t = some p ∧ le p q
theorem cov_round {E : List (Int × Int)} {root : Int} {n : Nat} {b : Best} (h : Cov E root n b) : Cov E root (n + 1) (bround E b) := by
  intro t q hq hl
  cases hq with
  | root =>
    obtain ⟨p, h1, h2⟩ := h root [root] .root (by simp)
    obtain ⟨p', g1, g2⟩ := fold_mono E b root p h1
    exact ⟨p', g1, le_trans g2 h2⟩
  | @step a _ q0 hw he =>
    rw [List.length_append, List.length_singleton] at hl
    obtain ⟨p, h1, h2⟩ := h a q0 hw (by omega)
    obtain ⟨l1, l2, hE⟩ := List.append_of_mem he
    unfold bround
    rw [hE, List.foldl_append, List.foldl_cons]
    obtain ⟨p1, g1, k1⟩ := fold_mono l1 b a p h1
    obtain ⟨p2, g2, k2⟩ := relax_edge (l1.foldl relax b) (a, t) g1
    obtain ⟨p3, g3, k3⟩ := fold_mono l2 _ t p2 g2
    exact ⟨p3, g3, le_trans k3 (le_trans k2 (le_snoc t (le_trans k1 h2)))⟩
theorem brounds_ok {E : List (Int × Int)} {root : Int} : ∀ n, Cov E root n (brounds E n (best0 root)) ∧ Snd E root (brounds E n (best0 root))
  | 0 => by
    refine ⟨fun t q hq hl => ?_, fun t p h => ?_⟩
    · cases hq with
      | root => exact ⟨[root], by simp [brounds, best0, put], le_refl _⟩
      | step hw _ => have := wlk_pos hw; rw [List.length_append, List.length_singleton] at hl; omega
    · unfold brounds best0 put at h
      by_cases e : t = root
      · rw [if_pos e] at h; cases h; rw [e]; exact .root
      · rw [if_neg e] at h; cases h
  | n + 1 => by
    obtain ⟨h1, h2⟩ := brounds_ok (E := E) (root := root) n
    exact ⟨cov_round h1, fold_snd E _ (fun _ he => he) h2⟩
/-- Both tell the same way. -/
theorem path_eq {E : List (Int × Int)} {root : Int} {R : List (Int × Int)} {P : Int → List Int} (h : Ways E root R P) {N : Nat} (hN : (keysF R).length ≤ N + 1) {t : Int} (ht : t ∈ keysF R) : brounds E N (best0 root) t = some (P t) := by
  obtain ⟨hc, hs⟩ := brounds_ok (E := E) (root := root) N
  have hn := h.nodup t ht
  have hl := nodup_le hn.1 hn.2
  obtain ⟨p, h1, h2⟩ := hc t (P t) (h.walk t ht) (by omega)
  rw [h1, le_antisymm h2 (h.least t ht p (hs t p h1))]
end Go.Proofs.Ytjceapbbapofmaa.Trust
