/- What is come to from a root: level by level, and round by round, are the same keys: plain. -/
namespace Go.Proofs.Ytjceapbbapofmaa.Trust
/-- A key is come to. -/
inductive Rch (E : List (Int × Int)) (root : Int) : Int → Prop
  | root : Rch E root root
  | step {a b : Int} : Rch E root a → (a, b) ∈ E → Rch E root b
def keysF (F : List (Int × Int)) : List Int := F.map (·.1)
def visit (k : Int) (s : List (Int × Int) × List Int) (t : Int) : List (Int × Int) × List Int := if t ∈ keysF s.1 then s else (s.1 ++ [(t, k)], s.2 ++ [t])
def visitK (rf : Int → List Int) (s : List (Int × Int) × List Int) (k : Int) : List (Int × Int) × List Int := (rf k).foldl (visit k) s
def visitL (rf : Int → List Int) (F : List (Int × Int)) (level : List Int) : List (Int × Int) × List Int := level.foldl (visitK rf) (F, [])
/-- The walk ends so, within n rounds. -/
def Fin (rf : Int → List Int) (R : List (Int × Int)) : Nat → List (Int × Int) → List Int → Prop
  | 0, F, lv => lv = [] ∧ F = R
  | n + 1, F, lv => if lv = [] then F = R else Fin rf R n (visitL rf F lv).1 (visitL rf F lv).2
/-- Behind some visits of a level: what stood there, what has come, and that it is so. -/
structure Vis (F0 F : List (Int × Int)) (next : List Int) (Ok : Int → Prop) : Prop where
  keys : keysF F = keysF F0 ++ next
  nodup : (keysF F).Nodup
  ok : ∀ t ∈ next, Ok t
theorem vis_step {F0 F : List (Int × Int)} {next : List Int} {Ok : Int → Prop} {k t : Int} (h : Vis F0 F next Ok) (ht : Ok t) : Vis F0 (visit k (F, next) t).1 (visit k (F, next) t).2 Ok ∧ t ∈ keysF (visit k (F, next) t).1 ∧ (∀ u ∈ keysF F, u ∈ keysF (visit k (F, next) t).1) := by
  unfold visit
  by_cases hm : t ∈ keysF F
  · simp only [if_pos hm]
    exact ⟨h, hm, fun _ hu => hu⟩
  · simp only [if_neg hm]
    have e : keysF (F ++ [(t, k)]) = keysF F ++ [t] := by simp [keysF]
    refine ⟨⟨by rw [e, h.keys, List.append_assoc], ?_, ?_⟩, by rw [e]; simp, fun u hu => by rw [e]; simp [hu]⟩
    · rw [e, List.nodup_append]
      refine ⟨h.nodup, by simp, fun a ha b hb => ?_⟩
      simp only [List.mem_singleton] at hb
      rintro rfl
      exact hm (hb ▸ ha)
    · intro u hu
      rcases List.mem_append.1 hu with hu | hu
      · exact h.ok u hu
      · simp only [List.mem_singleton] at hu; subst hu; exact ht
theorem vis_fold {F0 : List (Int × Int)} {Ok : Int → Prop} {k : Int} : ∀ (l : List Int) (F : List (Int × Int)) (next : List Int), Vis F0 F next Ok → (∀ t ∈ l, Ok t) →
    Vis F0 (l.foldl (visit k) (F, next)).1 (l.foldl (visit k) (F, next)).2 Ok ∧ (∀ t ∈ l, t ∈ keysF (l.foldl (visit k) (F, next)).1) ∧ (∀ u ∈ keysF F, u ∈ keysF (l.foldl (visit k) (F, next)).1)
  | [], F, next, h, _ => ⟨h, (fun t ht => by cases ht), fun _ hu => hu⟩
  | t :: l, F, next, h, hl => by
    obtain ⟨h1, h2, h3⟩ := vis_step (k := k) h (hl t (List.mem_cons_self ..))
    rw [List.foldl_cons]
    obtain ⟨g1, g2, g3⟩ := vis_fold (k := k) l (visit k (F, next) t).1 (visit k (F, next) t).2 h1 (fun u hu => hl u (List.mem_cons_of_mem _ hu))
    refine ⟨g1, fun u hu => ?_, fun u hu => g3 u (h3 u hu)⟩
    rcases List.mem_cons.1 hu with rfl | hu
    · exact g3 u h2
    · exact g2 u hu
theorem vis_level {rf : Int → List Int} {F0 : List (Int × Int)} {Ok : Int → Prop} : ∀ (l : List Int) (F : List (Int × Int)) (next : List Int), Vis F0 F next Ok → (∀ k ∈ l, ∀ t ∈ rf k, Ok t) →
    Vis F0 (l.foldl (visitK rf) (F, next)).1 (l.foldl (visitK rf) (F, next)).2 Ok ∧ (∀ k ∈ l, ∀ t ∈ rf k, t ∈ keysF (l.foldl (visitK rf) (F, next)).1) ∧ (∀ u ∈ keysF F, u ∈ keysF (l.foldl (visitK rf) (F, next)).1)
  | [], F, next, h, _ => ⟨h, (fun t ht => by cases ht), fun _ hu => hu⟩
  | k :: l, F, next, h, hl => by
    obtain ⟨h1, h2, h3⟩ := vis_fold (k := k) (rf k) F next h (hl k (List.mem_cons_self ..))
    rw [List.foldl_cons]
    obtain ⟨g1, g2, g3⟩ := vis_level (rf := rf) l (visitK rf (F, next) k).1 (visitK rf (F, next) k).2 h1 (fun u hu => hl u (List.mem_cons_of_mem _ hu))
    refine ⟨g1, fun u hu t ht => ?_, fun u hu => g3 u (h3 u hu)⟩
    rcases List.mem_cons.1 hu with rfl | hu
    · exact g3 t (h2 t ht)
    · exact g2 u hu t ht
/-- What holds at each level's head. -/
structure Lev (E : List (Int × Int)) (rf : Int → List Int) (root : Int) (F : List (Int × Int)) (lv : List Int) : Prop where
  hroot : root ∈ keysF F
  nodup : (keysF F).Nodup
  sound : ∀ k ∈ keysF F, Rch E root k
  sub : ∀ k ∈ lv, k ∈ keysF F
  done : ∀ k ∈ keysF F, k ∈ lv ∨ ∀ t ∈ rf k, t ∈ keysF F
theorem lev_start (E : List (Int × Int)) (rf : Int → List Int) (root : Int) : Lev E rf root [(root, root)] [root] :=
  ⟨by simp [keysF], by simp [keysF], fun k hk => by simp [keysF] at hk; subst hk; exact .root, fun k hk => by simpa [keysF] using hk, fun k hk => .inl (by simpa [keysF] using hk)⟩
theorem lev_step {E : List (Int × Int)} {rf : Int → List Int} {root : Int} {F : List (Int × Int)} {lv : List Int} (hrf : ∀ k t, t ∈ rf k → (k, t) ∈ E) (h : Lev E rf root F lv) :
    Lev E rf root (visitL rf F lv).1 (visitL rf F lv).2 ∧ keysF (visitL rf F lv).1 = keysF F ++ (visitL rf F lv).2 := by
  have h0 : Vis F F [] (Rch E root) := ⟨by simp, h.nodup, fun t ht => by cases ht⟩
  obtain ⟨g1, g2, g3⟩ := vis_level (rf := rf) lv F [] h0 (fun k hk t ht => .step (h.sound k (h.sub k hk)) (hrf k t ht))
  refine ⟨⟨g3 _ h.hroot, g1.nodup, fun k hk => ?_, fun k hk => ?_, fun k hk => ?_⟩, g1.keys⟩
  · rw [show keysF (visitL rf F lv).1 = keysF F ++ (visitL rf F lv).2 from g1.keys] at hk
    rcases List.mem_append.1 hk with hk | hk
    · exact h.sound k hk
    · exact g1.ok k hk
  · rw [show keysF (visitL rf F lv).1 = keysF F ++ (visitL rf F lv).2 from g1.keys]
    exact List.mem_append_right _ hk
  · rw [show keysF (visitL rf F lv).1 = keysF F ++ (visitL rf F lv).2 from g1.keys] at hk
    rcases List.mem_append.1 hk with hk | hk
    · rcases h.done k hk with hl | hd
      · exact .inr (g2 k hl)
      · exact .inr fun t ht => g3 t (hd t ht)
    · exact .inl hk
/-- All that is come to is the root or a cert's key. -/
theorem rch_sub {E : List (Int × Int)} {root k : Int} (h : Rch E root k) : k ∈ root :: E.map (·.2) := by
  cases h with
  | root => exact List.mem_cons_self ..
  | step _ he => exact List.mem_cons_of_mem _ (List.mem_map.2 ⟨_, he, rfl⟩)
theorem nodup_le {l m : List Int} (hn : l.Nodup) (hs : ∀ x ∈ l, x ∈ m) : l.length ≤ m.length := by
  induction l generalizing m with
  | nil => simp
  | cons a l ih =>
    rw [List.nodup_cons] at hn
    have ha := hs a (List.mem_cons_self ..)
    have := ih (m := m.erase a) hn.2 (fun x hx => by
      have hne : x ≠ a := fun e => hn.1 (e ▸ hx)
      exact (List.mem_erase_of_ne hne).2 (hs x (List.mem_cons_of_mem _ hx)))
    have h1 := List.length_erase_of_mem ha
    have h2 : 0 < m.length := List.length_pos_of_mem ha
    rw [List.length_cons]
    omega
theorem fin_lev {E : List (Int × Int)} {rf : Int → List Int} {root : Int} (hrf : ∀ k t, t ∈ rf k → (k, t) ∈ E) :
    ∀ (n : Nat) (F : List (Int × Int)) (lv : List Int), Lev E rf root F lv → (root :: E.map (·.2)).length + 1 ≤ (keysF F).length + n → (lv = [] ∨ 0 < (keysF F).length) → ∃ R, Fin rf R n F lv ∧ Lev E rf root R []
  | 0, F, lv, h, hn, _ => by
    have := nodup_le h.nodup (fun k hk => rch_sub (h.sound k hk))
    omega
  | n + 1, F, lv, h, hn, _ => by
    by_cases hl : lv = []
    · subst hl
      exact ⟨F, by simp [Fin], h⟩
    · obtain ⟨g, hk⟩ := lev_step hrf h
      have hlen : (keysF (visitL rf F lv).1).length = (keysF F).length + (visitL rf F lv).2.length := by rw [hk, List.length_append]
      by_cases h2 : (visitL rf F lv).2 = []
      · cases n with
        | zero =>
          refine ⟨(visitL rf F lv).1, ?_, ?_⟩
          · simp only [Fin, if_neg hl]; exact ⟨h2, trivial⟩
          · rw [h2] at g; exact g
        | succ n =>
          refine ⟨(visitL rf F lv).1, ?_, ?_⟩
          · simp only [Fin, if_neg hl, if_pos h2]
          · rw [h2] at g; exact g
      · have hpos : 0 < (visitL rf F lv).2.length := List.length_pos_iff.2 h2
        obtain ⟨R, hR, hL⟩ := fin_lev hrf n _ _ g (by omega) (.inr (by omega))
        exact ⟨R, by simp only [Fin, if_neg hl]; exact hR, hL⟩
/-- At the end: just what is come to. -/
theorem lev_end {E : List (Int × Int)} {rf : Int → List Int} {root : Int} {R : List (Int × Int)} (hrf : ∀ k t, (k, t) ∈ E → t ∈ rf k) (h : Lev E rf root R []) (k : Int) : k ∈ keysF R ↔ Rch E root k := by
  refine ⟨h.sound k, fun hr => ?_⟩
  induction hr with
  | root => exact h.hroot
  | step _ he ih =>
    rcases h.done _ ih with hl | hd
    · cases hl
    · exact hd _ (hrf _ _ he)
/-! ### round by round -/
def insA (t : Int) (out : List Int) : List Int := out.takeWhile (fun x => decide (x < t)) ++ t :: out.dropWhile (fun x => decide (x < t))
def rstep (out : List Int) (e : Int × Int) : List Int := if e.1 ∈ out ∧ e.2 ∉ out then insA e.2 out else out
def rround (E : List (Int × Int)) (out : List Int) : List Int := E.foldl rstep out
def rounds (E : List (Int × Int)) : Nat → List Int → List Int
  | 0, out => out
  | n + 1, out => rounds E n (rround E out)
theorem mem_insA {t x : Int} {out : List Int} : x ∈ insA t out ↔ x = t ∨ x ∈ out := by
  have e := List.takeWhile_append_dropWhile (p := fun x => decide (x < t)) (l := out)
  unfold insA
  rw [List.mem_append, List.mem_cons]
  constructor
  · rintro (h | h | h)
    · exact .inr (by rw [← e]; exact List.mem_append_left _ h)
    · exact .inl h
    · exact .inr (by rw [← e]; exact List.mem_append_right _ h)
  · rintro (h | h)
    · exact .inr (.inl h)
    · rw [← e] at h
      rcases List.mem_append.1 h with h | h
      · exact .inl h
      · exact .inr (.inr h)
def Up (l : List Int) : Prop := l.Pairwise (· < ·)
theorem insA_up {t : Int} : ∀ {out : List Int}, Up out → t ∉ out → Up (insA t out)
  | [], _, _ => by simp [insA, Up]
  | a :: l, h, hn => by
    unfold Up at h ⊢
    rw [List.pairwise_cons] at h
    have hne : t ≠ a := fun e => hn (by rw [e]; exact List.mem_cons_self ..)
    unfold insA
    by_cases ha : a < t
    · rw [List.takeWhile_cons_of_pos (by simpa using ha), List.dropWhile_cons_of_pos (by simpa using ha), List.cons_append, List.pairwise_cons]
      have ih := insA_up (t := t) h.2 (fun hm => hn (List.mem_cons_of_mem _ hm))
      refine ⟨fun x hx => ?_, ih⟩
      have : x ∈ insA t l := hx
      rcases mem_insA.1 this with rfl | hx
      · exact ha
      · exact h.1 x hx
    · rw [List.takeWhile_cons_of_neg (by simpa using ha), List.dropWhile_cons_of_neg (by simpa using ha), List.nil_append, List.pairwise_cons]
      refine ⟨fun x hx => ?_, List.pairwise_cons.2 h⟩
      rcases List.mem_cons.1 hx with rfl | hx
      · omega
      · have := h.1 x hx; omega
theorem up_nodup {l : List Int} (h : Up l) : l.Nodup := List.Pairwise.imp (fun hab => by omega) h
structure Rnd (E : List (Int × Int)) (root : Int) (out : List Int) : Prop where
  hroot : root ∈ out
  up : Up out
  sound : ∀ k ∈ out, Rch E root k
theorem rnd_step {E : List (Int × Int)} {root : Int} {out : List Int} {e : Int × Int} (h : Rnd E root out) (he : e ∈ E) : Rnd E root (rstep out e) ∧ (∀ x ∈ out, x ∈ rstep out e) ∧ (e.1 ∈ out → e.2 ∈ rstep out e) ∧ (rstep out e = out ∨ out.length < (rstep out e).length) := by
  unfold rstep
  by_cases hc : e.1 ∈ out ∧ e.2 ∉ out
  · rw [if_pos hc]
    refine ⟨⟨mem_insA.2 (.inr h.hroot), insA_up h.up hc.2, fun k hk => ?_⟩, fun x hx => mem_insA.2 (.inr hx), fun _ => mem_insA.2 (.inl rfl), .inr ?_⟩
    · rcases mem_insA.1 hk with rfl | hk
      · exact .step (h.sound _ hc.1) he
      · exact h.sound k hk
    · have e1 := List.takeWhile_append_dropWhile (p := fun x => decide (x < e.2)) (l := out)
      have e2 := congrArg List.length e1
      unfold insA
      rw [List.length_append] at e2
      rw [List.length_append, List.length_cons]
      omega
  · rw [if_neg hc]
    refine ⟨h, fun x hx => hx, fun h1 => ?_, .inl rfl⟩
    exact Classical.byContradiction fun h2 => hc ⟨h1, h2⟩
theorem rnd_fold {E : List (Int × Int)} {root : Int} : ∀ (l : List (Int × Int)) (out : List Int), (∀ e ∈ l, e ∈ E) → Rnd E root out → Rnd E root (l.foldl rstep out) ∧ (∀ x ∈ out, x ∈ l.foldl rstep out) ∧
    ((l.foldl rstep out = out ∧ ∀ e ∈ l, e.1 ∈ out → e.2 ∈ out) ∨ out.length < (l.foldl rstep out).length)
  | [], out, _, h => ⟨h, fun _ hx => hx, .inl ⟨rfl, (fun e he => by cases he)⟩⟩
  | e :: l, out, hl, h => by
    obtain ⟨h1, h2, h3, h4⟩ := rnd_step h (hl e (List.mem_cons_self ..))
    obtain ⟨g1, g2, g3⟩ := rnd_fold l (rstep out e) (fun x hx => hl x (List.mem_cons_of_mem _ hx)) h1
    rw [List.foldl_cons]
    refine ⟨g1, fun x hx => g2 x (h2 x hx), ?_⟩
    rcases h4 with h4 | h4
    · rw [h4] at g3 h3 ⊢
      rcases g3 with ⟨g3, g5⟩ | g3
      · refine .inl ⟨g3, fun x hx => ?_⟩
        rcases List.mem_cons.1 hx with rfl | hx
        · exact h3
        · exact g5 x hx
      · exact .inr g3
    · refine .inr ?_
      rcases g3 with ⟨g3, _⟩ | g3
      · rw [g3]; exact h4
      · omega
def Closed (E : List (Int × Int)) (out : List Int) : Prop := ∀ e ∈ E, e.1 ∈ out → e.2 ∈ out
theorem closed_rounds {E : List (Int × Int)} : ∀ (n : Nat) (out : List Int), Closed E out → rounds E n out = out
  | 0, _, _ => rfl
  | n + 1, out, h => by
    have key : ∀ (l : List (Int × Int)), (∀ e ∈ l, e ∈ E) → l.foldl rstep out = out := by
      intro l
      induction l with
      | nil => intro _; rfl
      | cons e l ih =>
        intro hl
        have : rstep out e = out := by
          unfold rstep
          rw [if_neg]
          rintro ⟨h1, h2⟩
          exact h2 (h e (hl e (List.mem_cons_self ..)) h1)
        rw [List.foldl_cons, this]
        exact ih fun x hx => hl x (List.mem_cons_of_mem _ hx)
    rw [rounds, show rround E out = out from key E fun _ he => he]
    exact closed_rounds n out h
theorem rounds_end {E : List (Int × Int)} {root : Int} : ∀ (n : Nat) (out : List Int), Rnd E root out → Rnd E root (rounds E n out) ∧ (Closed E (rounds E n out) ∨ out.length + n ≤ (rounds E n out).length)
  | 0, out, h => ⟨h, .inr (Nat.le_refl _)⟩
  | n + 1, out, h => by
    obtain ⟨g1, g2, g3⟩ := rnd_fold E out (fun _ he => he) h
    rcases g3 with ⟨g3, g5⟩ | g3
    · rw [closed_rounds (n + 1) out g5]
      exact ⟨h, .inl g5⟩
    · obtain ⟨r1, r2⟩ := rounds_end n (rround E out) g1
      refine ⟨r1, r2.imp id fun r => ?_⟩
      show _ ≤ (rounds E n (rround E out)).length
      have : out.length < (rround E out).length := g3
      omega
theorem rnd_start (E : List (Int × Int)) (root : Int) : Rnd E root [root] := ⟨by simp, by simp [Up], fun k hk => by simp at hk; subst hk; exact .root⟩
theorem rounds_closed (E : List (Int × Int)) (root : Int) : Closed E (rounds E E.length [root]) := by
  obtain ⟨h, hc | hl⟩ := rounds_end E.length [root] (rnd_start E root)
  · exact hc
  · -- so many are in that all are
    have hs : ∀ x ∈ rounds E E.length [root], x ∈ root :: E.map (·.2) := fun x hx => rch_sub (h.sound x hx)
    intro e he _
    refine Classical.byContradiction fun hno => ?_
    have hm : e.2 ∈ root :: E.map (·.2) := List.mem_cons_of_mem _ (List.mem_map.2 ⟨e, he, rfl⟩)
    have := nodup_le (l := rounds E E.length [root]) (m := (root :: E.map (·.2)).erase e.2) (up_nodup h.up) (fun x hx => (List.mem_erase_of_ne (fun e' : x = e.2 => hno (by rw [← e']; exact hx))).2 (hs x hx))
    rw [List.length_erase_of_mem hm] at this
    simp only [List.length_cons, List.length_map, List.length_nil] at this hl
    omega
theorem rounds_mem (E : List (Int × Int)) (root k : Int) : k ∈ rounds E E.length [root] ↔ Rch E root k := by
  obtain ⟨h, _⟩ := rounds_end E.length [root] (rnd_start E root)
  refine ⟨h.sound k, fun hr => ?_⟩
  induction hr with
  | root => exact h.hroot
  | step _ he ih => exact rounds_closed E root _ he ih
theorem up_eq : ∀ {l m : List Int}, Up l → Up m → (∀ x, x ∈ l ↔ x ∈ m) → l = m
  | [], [], _, _, _ => rfl
  | [], b :: m, _, _, h => absurd ((h b).2 (List.mem_cons_self ..)) (by simp)
  | a :: l, [], _, _, h => absurd ((h a).1 (List.mem_cons_self ..)) (by simp)
  | a :: l, b :: m, hl, hm, h => by
    unfold Up at hl hm
    rw [List.pairwise_cons] at hl hm
    have hab : a = b := by
      have h1 := (h a).1 (List.mem_cons_self ..)
      have h2 := (h b).2 (List.mem_cons_self ..)
      rcases List.mem_cons.1 h1 with e | h1
      · exact e
      · rcases List.mem_cons.1 h2 with e | h2
        · exact e.symm
        · have := hm.1 a h1; have := hl.1 b h2; omega
    subst hab
    congr 1
    refine up_eq hl.2 hm.2 fun x => ?_
    have hx := h x
    rw [List.mem_cons, List.mem_cons] at hx
    refine ⟨fun h1 => ?_, fun h1 => ?_⟩
    · rcases hx.1 (.inr h1) with e | h2
      · have := hl.1 x h1; omega
      · exact h2
    · rcases hx.2 (.inr h1) with e | h2
      · have := hm.1 x h1; omega
      · exact h2
/-- Whatever list of the keys that were come to level by level: sorted, it is what comes round by round. -/
theorem reach_eq {E : List (Int × Int)} {rf : Int → List Int} {root : Int} {R : List (Int × Int)} (hrf : ∀ k t, (k, t) ∈ E → t ∈ rf k) (h : Lev E rf root R []) {ss : List Int} (hp : ss.Perm (keysF R)) :
    ss.mergeSort (fun x y => decide (x ≤ y)) = rounds E E.length [root] := by
  refine up_eq ?_ (rounds_end E.length [root] (rnd_start E root)).1.up fun x => ?_
  · have hs := List.pairwise_mergeSort (le := fun x y : Int => decide (x ≤ y)) (fun a b c h1 h2 => by simp at h1 h2 ⊢; omega) (fun a b => by simp; omega) ss
    have hn : (ss.mergeSort fun x y => decide (x ≤ y)).Nodup := ((List.mergeSort_perm ss _).trans hp).nodup_iff.2 h.nodup
    unfold Up
    refine List.Pairwise.imp₂ (R := fun a b => decide (a ≤ b) = true) (S := fun a b => a ≠ b) (fun a b h1 h2 => ?_) hs hn
    simp at h1
    omega
  · rw [((List.mergeSort_perm ss _).trans hp).mem_iff, lev_end hrf h, rounds_mem]
end Go.Proofs.Ytjceapbbapofmaa.Trust
