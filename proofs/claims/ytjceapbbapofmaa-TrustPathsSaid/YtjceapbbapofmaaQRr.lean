/- The reference's TrustReach, walked: round by round. -/
import Derived.Test.YtjceapbbapofmaaQRe
import Derived.Test.YtjceapbbapofmaaQHs
import Derived.Test.YtjceapbbapofmaaQIn
namespace Go.Proofs.Ytjceapbbapofmaa.Q
open Go.RowKit Go.Maps Go.Sort Go.Shelf Go.Proofs.Ytjceapbbapofmaa.PTrustPaths Go.Proofs.Ytjceapbbapofmaa.PgTrust Go.Proofs.Ytjceapbbapofmaa.Trust Go.Proofs.Ytjceapbbapofmaa.FnsTrustPaths Go.Proofs.Ytjceapbbapofmaa.SignMath Go.Proofs.YtjceapbbapofmaaW.PrintWords Go.Proofs.YtjceapbbapofmaaW.PrintLast Go.Proofs.YtjceapbbapofmaaW.PrintMore
set_option linter.unusedVariables false
set_option linter.unusedSimpArgs false
abbrev cells52 (c : S52) : List Value := [.int .i64 c.f0, .int .i64 c.f1, .int .i64 c.f2.f0, .int .i64 c.f2.f1]
def flat52 (l : List S52) : List Value := l.flatMap cells52
theorem flat_snoc (l : List S52) (c : S52) : flat52 (l ++ [c]) = flat52 l ++ cells52 c := by simp [flat52]
theorem reps_flat (R : S52 → List Value → Prop) (hR : ∀ c, R c (cells52 c)) : ∀ l : List S52, Reps R 4 l.reverse (flat52 l.reverse)
  | [] => Reps.none _ _
  | c :: l => by rw [List.reverse_cons, flat_snoc]; exact (reps_flat R hR l).snoc (hR c) rfl
theorem own_C {w : World} {B : Nat} {v : Value} {l : List S52} (h : w.ownsRow B 52 4 v l.length (flat52 l)) : ∃ A c, v = .slice A l.length c ∧ Kd.C k52 w A l.length l :=
  own_reads_row h (by have := reps_flat (k52.K w) (k52_mk w) l.reverse; rwa [List.reverse_reverse] at this) rfl
/-- The good certs. -/
noncomputable def goodL (l : List S52) : List S52 := l.filter fun c => decide (goodC c = 0)
theorem goodL_len (l : List S52) : (goodL l).length ≤ l.length := List.length_filter_le _ _
theorem goodL_snoc (l : List S52) (c : S52) : goodL (l ++ [c]) = if goodC c = 0 then goodL l ++ [c] else goodL l := by
  unfold goodL
  rw [List.filter_append]
  by_cases h : goodC c = 0 <;> simp [h]
theorem edges_good (l : List S52) : edges l = (goodL l).map fun c => (c.f0, c.f1) := rfl
theorem info52 : (Try.prog.info? 52).map (fun i => (i.zero, i.size, i.bytes)) = some (some (.agg #[.int .i64 0, .int .i64 0, .int .i64 0, .int .i64 0]), 4, 32) := by kernel_rfl
theorem one_52 (c : S52) (u : Value) (h : u ∈ cells52 c) : u.oneCell' = true := by
  simp only [cells52, List.mem_cons, List.not_mem_nil, or_false] at h
  rcases h with rfl | rfl | rfl | rfl <;> rfl
theorem rounds_succ' (E : List (Int × Int)) : ∀ (n : Nat) (out : List Int), rounds E (n + 1) out = rround E (rounds E n out)
  | 0, _ => rfl
  | n + 1, out => by rw [rounds, rounds_succ' E n (rround E out)]; rfl
/-- What holds in the rounds. -/
structure ROk (w w' : World) (G : List S52) (g9 : Nat) (v6 vo : Value) (o : List Int) : Prop where
  below : Below w.heap.size w w'
  cell : w'.heap[g9]? = some (.cells #[vo] 24 (0, 0))
  out : w'.ownsRow w.heap.size 3 1 vo o.length (intsV o)
  good : w'.ownsRow w.heap.size 52 4 v6 G.length (flat52 G)
  ge : w.heap.size ≤ g9
theorem ROk.step {w w' w'' : World} {G : List S52} {g9 : Nat} {v6 vo : Value} {o : List Int} (h : ROk w w' G g9 v6 vo o) (hb : Below w'.heap.size w' w'') : ROk w w'' G g9 v6 vo o :=
  ⟨below_step h.below hb, blk_below h.cell hb, pw_own_below h.out hb, pw_own_below h.good hb, h.ge⟩
theorem ROk.ins {w : World} {p : IPar} {G : List S52} {v6 vo : Value} {w' : World} (h : ROk w p.w0 G p.g9 v6 vo p.o) (hP : InsPost p w') : ∃ v', ROk w w' G p.g9 v6 v' (p.o.take p.i ++ p.C.f1 :: p.o.drop p.i) := by
  obtain ⟨v', hc, ho⟩ := hP.cell
  have hg9 := h.cell
  have hn : (p.o.take p.i ++ p.C.f1 :: p.o.drop p.i).length = p.o.length + 1 := by
    have := congrArg List.length (List.take_append_drop p.i p.o)
    rw [List.length_append] at this ⊢
    rw [List.length_cons]
    omega
  have hgr : p.w0.grownBy w' (some p.g9) := ⟨hP.os, hP.tape, hP.output, hP.size, fun k hk hne => hP.block k hk (fun e => hne (by rw [e]))⟩
  refine ⟨v', grown_below h.below hgr (fun k hk => by cases hk; exact h.ge), hc, ?_, h.good.kept hgr ?_, h.ge⟩
  · rw [hn]
    exact own_base ho h.below.size
  · cases hv : v6.ownBlock with
    | none => exact .inl rfl
    | some q => exact .inr fun e => own_apart h.good hg9 (by decide) (by rw [hv]; exact e.symm)
theorem ins_eq {o : List Int} {t : Int} {i : Nat} (hi : i ≤ o.length) (hlt : ∀ x ∈ o.take i, x < t) (hend : i = o.length ∨ ∃ h : i < o.length, ¬ o[i] < t) : o.take i ++ t :: o.drop i = insA t o := by
  have h1 : ∀ (a b : List Int), (∀ x ∈ a, x < t) → (b = [] ∨ ∃ y b', b = y :: b' ∧ ¬ y < t) → insA t (a ++ b) = a ++ t :: b := by
    intro a
    induction a with
    | nil =>
      intro b _ hb
      rcases hb with rfl | ⟨y, b', rfl, hy⟩
      · rfl
      · unfold insA
        rw [List.nil_append, List.takeWhile_cons_of_neg (by simpa using hy), List.dropWhile_cons_of_neg (by simpa using hy)]
        first | done | simp
    | cons x a ih =>
      intro b ha hb
      have := ih b (fun y hy => ha y (List.mem_cons_of_mem _ hy)) hb
      have hx := ha x (List.mem_cons_self ..)
      unfold insA at this ⊢
      rw [List.cons_append, List.takeWhile_cons_of_pos (by simpa using hx), List.dropWhile_cons_of_pos (by simpa using hx), List.cons_append, List.cons_append, this]
  have h2 := h1 (o.take i) (o.drop i) hlt (by
    rcases hend with rfl | ⟨h, hn⟩
    · exact .inl (by simp)
    · exact .inr ⟨o[i], o.drop (i + 1), by rw [List.drop_eq_getElem_cons h], hn⟩)
  rw [List.take_append_drop] at h2
  exact h2.symm
theorem rnd_len {l : List S52} {root : Int} {o : List Int} (h : Rnd (edges l) root o) (hl : l.length ≤ 60) : o.length ≤ 61 := by
  have h1 := nodup_le (up_nodup h.up) (fun k hk => rch_sub (h.sound k hk))
  have h2 := edges_len l
  simp only [List.length_cons, List.length_map] at h1
  omega
set_option maxRecDepth 100000 in
set_option maxHeartbeats 16000000 in
theorem refReach_walk (root : Int) (hroot : (Lit.int .i64 root).wf = true) (l : List S52) (A : Option Addr) (c : Nat) (w : World) (hC : Kd.C k52 w A l.length l) :
    Calls Try.prog 36 #[.int .i64 root, .slice A l.length c] w (ReachPost w l root) := by
  obtain ⟨i3, hi3, hz0, hz1, hz2⟩ := info_parts info3
  obtain ⟨i52, hj3, hy0, hy1, hy2⟩ := info_parts info52
  have hmf : ∀ (fn : Fn) (first cap : Array Value) (w : World), (Instr.makeFunc fn first cap).run Try.prog w = .ok (.func fn first cap) w := fun _ _ _ _ => rfl
  have HC := Aside0.mk hC
  have HK := Aside0.mk (isKey_walk root w)
  by_cases hgt : l.length > 60
  · have hz : faultZ root l = 1 := by unfold faultZ; rw [if_pos hgt]
    have hr : reachL root l = [] := by unfold reachL; rw [hz]; rfl
    have h1 : decide ((60 : Int) < (l.length : Int)) = true := decide_eq_true (by omega)
    have HZ := Aside0.mk (And.intro hz hr)
    clear hz hr
    go_enter Try.func36, Try.ntmps36
    go_wp2
    go_ret2
    refine ⟨nilS, ?_, ?_, Below.refl _ _⟩
    · rw [HZ.out.1]; rfl
    · rw [HZ.out.2]; exact World.ownsRow_nil _ _ _ _
  have hl : l.length ≤ 60 := by omega
  have h1 : decide ((60 : Int) < (l.length : Int)) = false := decide_eq_false (by omega)
  clear hgt
  cases hp : isPub root with
  | false =>
    have hz : faultZ root l = 2 := by unfold faultZ; rw [if_neg (by omega), hp]; rfl
    have hr : reachL root l = [] := by unfold reachL; rw [hz]; rfl
    have HZ := Aside0.mk (And.intro hz hr)
    clear hz hr
    rw [hp] at HK
    go_enter Try.func36, Try.ntmps36
    go_wp2_with (go_at_call 47; refine HK.out.mono ?_; rintro e w1 ⟨rfl, hd⟩; have HB1 := Aside0.mk hd.below; clear hd)
    go_ret2
    refine ⟨nilS, ?_, ?_, HB1.out⟩
    · rw [HZ.out.1]; rfl
    · rw [HZ.out.2]; exact World.ownsRow_nil _ _ _ _
  | true =>
    have hz : faultZ root l = 0 := by unfold faultZ; rw [if_neg (by omega), hp]; rfl
    have hr : reachL root l = rounds (edges l) (edges l).length [root] := by unfold reachL; rw [hz]; rfl
    have HZ := Aside0.mk (And.intro hz hr)
    have HL := Aside0.mk hl
    clear hz hr hl
    rw [hp] at HK
    go_enter Try.func36, Try.ntmps36
    go_wp2_with (go_at_call 47; refine HK.out.mono ?_; rintro e w1 ⟨rfl, hd⟩; have HB1 := Aside0.mk hd.below; clear hd)
    go_loopw [6, 22] (fun v6 v22 wr => ∃ i : Nat, v22 = .int .i64 i ∧ Aside0 (i ≤ l.length) ∧ Aside0 (Below w.heap.size w wr) ∧ Aside0 (wr.ownsRow w.heap.size 52 4 v6 (goodL (l.take i)).length (flat52 (goodL (l.take i))))) (fun _ v22 _ => l.length - (intOf v22).toNat)
    case atStart => exact ⟨0, rfl, ⟨Nat.zero_le _⟩, HB1, ⟨World.ownsRow_nil _ _ _ _⟩⟩
    case round =>
      obtain ⟨i, rfl, hi, HB, HG⟩ := hrel
      have hil := hi.out
      by_cases hlt : i < l.length
      · have p1 : (0 : Int) ≤ (i : Int) := Int.natCast_nonneg i
        have q1 : (i : Int) < (l.length : Int) := Int.ofNat_lt.2 hlt
        have hi1 : IntKind.i64.wrap ((i : Int) + 1) = (i : Int) + 1 := by have := HL.out; unfold IntKind.wrap; simp [IntKind.signed, IntKind.bits]; omega
        obtain ⟨ad, rfl, hx0, hx1, hx2, hx3⟩ := at_T52 HC.out (i : Int) p1 q1
        rw [rd52 hlt] at hx0 hx1 hx2 hx3
        rw [Int.toNat_natCast] at hx0 hx1 hx2 hx3
        obtain ⟨C, hC'⟩ : ∃ C, C = l[i] := ⟨_, rfl⟩
        rw [← hC'] at hx0 hx1 hx2 hx3
        replace hx0 := (HB.out.cell (World.block_lt_of_cell? w _ hx0)).trans hx0
        replace hx1 := (HB.out.cell (World.block_lt_of_cell? w _ hx1)).trans hx1
        replace hx2 := (HB.out.cell (World.block_lt_of_cell? w _ hx2)).trans hx2
        replace hx3 := (HB.out.cell (World.block_lt_of_cell? w _ hx3)).trans hx3
        have HT : Aside0 (l.take (i + 1) = l.take i ++ [C]) := ⟨take_snoc hlt hC'⟩
        have HGl : Aside0 ((goodL (l.take i)).length ≤ 60) := ⟨by have := goodL_len (l.take i); rw [List.length_take] at this; have := HL.out; omega⟩
        clear hC'
        have HW31 := Aside0.mk (refGood_walk C.f0 C.f1 C.f2.f0 C.f2.f1)
        rw [show goodZ C.f0 C.f1 C.f2.f0 C.f2.f1 = goodC C from rfl] at HW31
        by_cases hg0 : goodC C = 0
        · have HT2 : Aside0 (goodL (l.take (i + 1)) = goodL (l.take i) ++ [C]) := ⟨by rw [HT.out, goodL_snoc, if_pos hg0]⟩
          rw [hg0] at HW31
          clear hg0
          obtain ⟨A6, c6, rfl⟩ := own_slice HG.out
          go_wp2_with (first | (go_at_call 31; refine (HW31.out _).mono ?_; rintro e w5 ⟨rfl, hb5⟩; have HB5 := Aside0.mk (below_step (below_alloc HB.out _) hb5); have BK5 := blk_below (blk_new wr _) hb5; have HG5 := Aside0.mk (pw_own_below (HG.out.alloc _) hb5); have k0 := (blk_cell BK5 0).trans rfl; have k1 := (blk_cell BK5 1).trans rfl; have k2 := (blk_cell BK5 2).trans rfl; have k3 := (blk_cell BK5 3).trans rfl; clear hb5 BK5) | (at_builtin; refine wpList_append_lies _ rfl (.tmp 29) (.tmp 31) 55 rfl w.heap.size 52 i52 (.agg #[.int .i64 0, .int .i64 0, .int .i64 0, .int .i64 0]) 4 32 Try.underlying55 hj3 hy0 hy1 hy2 rfl (by decide) _ _ _ rfl (HG5.out.alloc _) ⟨w5.heap.size, 0, none⟩ 1 1 (cells52 C) rfl rfl (news_blk (cs := cells52 C) (blk_new w5 _)) (one_52 C) (by decide) (by have := HGl.out; unfold maxLen; omega) (by have := HGl.out; omega) (by have := HB5.out.size; simp; omega) (w5.heap.size + 1) (by simp) ?_; intro g8 c8 w7 ho7 hg7 hat7 _; have HO7 := Aside0.mk ho7; have HB7 := Aside0.mk (grown_below (below_alloc HB5.out _) hg7 (fun k hk => (HG5.out.lt k hk).1)); clear ho7 hg7 hat7))
          go_roundw
          case rel => exact ⟨i + 1, by simp, ⟨hlt⟩, HB7, ⟨by rw [HT2.out, flat_snoc, List.length_append]; exact HO7.out⟩⟩
          case measure => simp [intOf]; omega
        · have HT2 : Aside0 (goodL (l.take (i + 1)) = goodL (l.take i)) := ⟨by rw [HT.out, goodL_snoc, if_neg hg0]⟩
          have hgb : (goodC C == 0) = false := beq_eq_false_iff_ne.mpr hg0
          go_wp2_with (go_at_call 31; refine (HW31.out _).mono ?_; rintro e w5 ⟨rfl, hb5⟩; have HB5 := Aside0.mk (below_step (below_alloc HB.out _) hb5); have HG5 := Aside0.mk (pw_own_below (HG.out.alloc _) hb5); clear hb5)
          go_roundw
          case rel => exact ⟨i + 1, by simp, ⟨hlt⟩, HB5, ⟨by rw [HT2.out]; exact HG5.out⟩⟩
          case measure => simp [intOf]; omega
      · obtain rfl : i = l.length := by omega
        rw [List.take_length] at HG
        obtain ⟨A6, c6, rfl, HC6⟩ := own_C HG.out
        obtain ⟨wo, hwo⟩ : ∃ x, x = wr := ⟨wr, rfl⟩
        subst hwo
        go_wp2
        have HR0 : Aside0 (ROk w ((wo.alloc (.cells #[.int .i64 root] 3)).alloc (.cells #[.slice (some ⟨wo.heap.size, 0, none⟩) 1 1] 24)) (goodL l) (wo.heap.size + 1) (.slice A6 (goodL l).length c6) (.slice (some ⟨wo.heap.size, 0, none⟩) 1 1) [root]) :=
          ⟨⟨below_alloc (below_alloc HB.out _) _, by simpa using blk_new (wo.alloc (.cells #[.int .i64 root] 3)) (.cells #[.slice (some ⟨wo.heap.size, 0, none⟩) 1 1] 24), (own_new HB.out.size).alloc _, (HG.out.alloc _).alloc _, by have := HB.out.size; omega⟩⟩
        have hGl : Aside0 ((goodL l).length ≤ 60) := ⟨Nat.le_trans (goodL_len l) HL.out⟩
        clear HG HB HC6
        go_loopw [39] (fun v39 wr => ∃ (n : Nat) (o : List Int) (vo : Value), v39 = .int .i64 n ∧ Aside0 (n ≤ (goodL l).length) ∧ Aside0 (o = rounds (edges l) n [root]) ∧ Aside0 (Rnd (edges l) root o) ∧ Aside0 (ROk w wr (goodL l) (wo.heap.size + 1) (.slice A6 (goodL l).length c6) vo o)) (fun v39 _ => (goodL l).length - (intOf v39).toNat)
        case atStart => exact ⟨0, [root], _, rfl, ⟨Nat.zero_le _⟩, ⟨rfl⟩, ⟨rnd_start _ _⟩, HR0⟩
        case round =>
          clear HR0
          obtain ⟨n, o0, vo0, rfl, hn, ho0, hR0, HR0⟩ := hrel
          have hnl := hn.out
          by_cases hnt : n < (goodL l).length
          · have p1 : (0 : Int) ≤ (n : Int) := Int.natCast_nonneg n
            have q1 : (n : Int) < ((goodL l).length : Int) := Int.ofNat_lt.2 hnt
            have hn1 : IntKind.i64.wrap ((n : Int) + 1) = (n : Int) + 1 := by have := hGl.out; unfold IntKind.wrap; simp [IntKind.signed, IntKind.bits]; omega
            go_wp2
            go_loopw [43] (fun v43 wr => ∃ (j : Nat) (o : List Int) (vo : Value), v43 = .int .i64 j ∧ Aside0 (j ≤ (goodL l).length) ∧ Aside0 (o = ((edges l).take j).foldl rstep o0) ∧ Aside0 (Rnd (edges l) root o) ∧ Aside0 (ROk w wr (goodL l) (wo.heap.size + 1) (.slice A6 (goodL l).length c6) vo o)) (fun v43 _ => (goodL l).length - (intOf v43).toNat)
            case atStart => exact ⟨0, o0, vo0, rfl, ⟨Nat.zero_le _⟩, ⟨rfl⟩, hR0, HR0⟩
            case round =>
              clear HR0
              obtain ⟨j, o, vo, rfl, hj, ho, hR, HR⟩ := hrel
              obtain ⟨wi, hwi⟩ : ∃ x, x = wr := ⟨wr, rfl⟩
              subst hwi
              have hjl := hj.out
              by_cases hjt : j < (goodL l).length
              · have p2 : (0 : Int) ≤ (j : Int) := Int.natCast_nonneg j
                have q2 : (j : Int) < ((goodL l).length : Int) := Int.ofNat_lt.2 hjt
                have hj1 : IntKind.i64.wrap ((j : Int) + 1) = (j : Int) + 1 := by have := hGl.out; unfold IntKind.wrap; simp [IntKind.signed, IntKind.bits]; omega
                obtain ⟨A6', c6', e6, HC6⟩ := own_C HR.out.good
                cases e6
                obtain ⟨ad, rfl, hx0, hx1, hx2, hx3⟩ := at_T52 HC6 (j : Int) p2 q2
                rw [rd52 hjt] at hx0 hx1 hx2 hx3
                rw [Int.toNat_natCast] at hx0 hx1 hx2 hx3
                obtain ⟨C, hC'⟩ : ∃ C, C = (goodL l)[j] := ⟨_, rfl⟩
                rw [← hC'] at hx0 hx1 hx2 hx3
                have hjE : j < (edges l).length := by rw [edges_good, List.length_map]; exact hjt
                have hEj : (edges l)[j] = (C.f0, C.f1) := by rw [hC']; simp [edges_good]
                have hstep : Aside0 (((edges l).take (j + 1)).foldl rstep o0 = rstep o (C.f0, C.f1)) := ⟨by rw [List.take_succ_eq_append_getElem hjE, List.foldl_append, ← ho.out, hEj]; rfl⟩
                have hR2 := Aside0.mk (rnd_step hR.out (hEj ▸ List.getElem_mem hjE)).1
                have hol : Aside0 (o.length ≤ 61) := ⟨rnd_len hR.out HL.out⟩
                clear hC' hjE hEj HC6
                have HRa := Aside0.mk (HR.out.step (below_alloc (Below.refl _ _) (.cells #[.int .i64 C.f0, .int .i64 C.f1, .int .i64 C.f2.f0, .int .i64 C.f2.f1] 52)))
                have H0 := Aside0.mk (has_walk C.f0 _ _ _ _ _ HRa.out.cell HRa.out.out)
                have H1 := Aside0.mk (has_walk C.f1 _ _ _ _ _ HRa.out.cell HRa.out.out)
                by_cases c0 : C.f0 ∈ o
                · by_cases c1 : C.f1 ∈ o
                  · have hS : Aside0 (rstep o (C.f0, C.f1) = o) := ⟨by unfold rstep; rw [if_neg (fun h => h.2 c1)]⟩
                    rw [decide_eq_true c0] at H0
                    rw [decide_eq_true c1] at H1
                    clear c0 c1
                    go_wp2_with (go_at_call 56; first | (refine H0.out.mono ?_; clear H0; rintro e w5 ⟨rfl, rfl⟩) | (refine H1.out.mono ?_; rintro e w5 ⟨rfl, rfl⟩))
                    go_roundw
                    case rel => exact ⟨j + 1, o, vo, by simp, ⟨hjt⟩, ⟨by rw [hstep.out, hS.out]⟩, hR, HRa⟩
                    case measure => simp [intOf]; omega
                  · have hS : Aside0 (rstep o (C.f0, C.f1) = insA C.f1 o) := ⟨by unfold rstep; rw [if_pos ⟨c0, c1⟩]⟩
                    rw [decide_eq_true c0] at H0
                    rw [decide_eq_false c1] at H1
                    clear c0 c1
                    go_wp2_with (go_at_call 56; first | (refine H0.out.mono ?_; clear H0; rintro e w5 ⟨rfl, rfl⟩) | (refine H1.out.mono ?_; rintro e w5 ⟨rfl, rfl⟩))
                    obtain ⟨gv, cv, rfl⟩ := own_form HRa.out.out (by have := List.length_pos_of_mem hR.out.hroot; omega)
                    have HCc := Aside0.mk (blk_new wi (.cells #[.int .i64 C.f0, .int .i64 C.f1, .int .i64 C.f2.f0, .int .i64 C.f2.f1] 52))
                    go_loopw [13] (fun v13 wq => ∃ i : Nat, v13 = .int .i64 i ∧ Aside0 (i ≤ o.length) ∧ Aside0 (∀ x ∈ o.take i, x < C.f1) ∧ Aside0 (Drawn0 (wi.alloc (.cells #[.int .i64 C.f0, .int .i64 C.f1, .int .i64 C.f2.f0, .int .i64 C.f2.f1] 52)) wq)) (fun v13 _ => o.length - (intOf v13).toNat)
                    case atStart => exact ⟨0, rfl, ⟨Nat.zero_le _⟩, ⟨by simp⟩, ⟨Drawn0.refl _⟩⟩
                    case round =>
                      obtain ⟨i, rfl, hi, hlts, hd⟩ := hrel
                      have hil := hi.out
                      have HRq := Aside0.mk (HRa.out.step hd.out.below)
                      have HCq := Aside0.mk (blk_below HCc.out hd.out.below)
                      have hcv : wr.cell? ⟨wo.heap.size + 1, 0, none⟩ = some (.slice (some ⟨gv, 0, none⟩) o.length cv) := (blk_cell HRq.out.cell 0).trans rfl
                      have hcf : wr.cell? ⟨wi.heap.size, 1, none⟩ = some (.int .i64 C.f1) := (blk_cell HCq.out 1).trans rfl
                      by_cases hit : i < o.length
                      · have p3 : (0 : Int) ≤ (i : Int) := Int.natCast_nonneg i
                        have q3 : (i : Int) < (o.length : Int) := Int.ofNat_lt.2 hit
                        have d3 : decide ((i : Int) < (o.length : Int)) = true := decide_eq_true q3
                        have hi1 : IntKind.i64.wrap ((i : Int) + 1) = (i : Int) + 1 := by have := hol.out; unfold IntKind.wrap; simp [IntKind.signed, IntKind.bits]; omega
                        have hxo : wr.cell? ⟨gv, i, none⟩ = some (.int .i64 o[i]) := row_at HRq.out.out i _ (by rw [List.getElem?_map, List.getElem?_eq_getElem hit]; rfl)
                        by_cases hlx : o[i] < C.f1
                        · have hb : decide (o[i] < C.f1) = true := decide_eq_true hlx
                          have hlt2 : Aside0 (∀ x ∈ o.take (i + 1), x < C.f1) := ⟨fun x hx => by
                            rw [List.take_succ_eq_append_getElem hit, List.mem_append] at hx
                            rcases hx with hx | hx
                            · exact hlts.out x hx
                            · simp only [List.mem_singleton] at hx; rw [hx]; exact hlx⟩
                          clear hlx
                          go_wp2
                          go_quiet (fail)
                          go_wp2
                          go_roundw
                          case rel => exact ⟨i + 1, by simp, ⟨hit⟩, hlt2, ⟨by repeat (first | exact hd.out | apply Drawn0.step)⟩⟩
                          case measure => simp [intOf]; omega
                        · have hb : decide (o[i] < C.f1) = false := decide_eq_false hlx
                          have hIns : Aside0 (o.take i ++ C.f1 :: o.drop i = insA C.f1 o) := ⟨ins_eq hi.out hlts.out (.inr ⟨hit, hlx⟩)⟩
                          clear hlx
                          go_wp2
                          go_quiet (fail)
                          go_wp2
                          have HRd := Aside0.mk (HRq.out.step (Drawn0.below ⟨⟨nq, rfl⟩⟩))
                          refine ins_region ⟨wr.drewN nq, wo.heap.size + 1, wi.heap.size, gv, cv, o, C, i⟩ w.heap.size _ _ rfl rfl rfl rfl HRd.out.cell HRd.out.out (blk_below HCq.out (Drawn0.below ⟨⟨nq, rfl⟩⟩)) hi.out hol.out ?_
                          intro vs w7 hP
                          have HR7 := Aside0.mk (HRd.out.ins hP)
                          rw [hIns.out, ← hS.out] at HR7
                          clear hP
                          generalize hLt : layF _ _ _ vs = LL
                          obtain rfl : LL = [.int .i64 root, .slice A l.length c, undef, undef, .slice none 0 0, .int .i64 0, .slice (some ad) (goodL l).length c6, undef, u8, .pointer (some ⟨wo.heap.size + 1, 0, none⟩), .func (Fn.func 56) #[] #[.pointer (some ⟨wo.heap.size + 1, 0, none⟩)], undef, .pointer (some ⟨wi.heap.size, 0, none⟩), .int .i64 i, .slice A l.length c, .int .i64 l.length, .bool false, .int .i64 root, .bool true, .bool false, .slice A l.length c, .int .i64 l.length, .int .i64 l.length, .bool false, u24, u25, u26, u27, u28, u29, u30, u31, u32, u33, .int .i64 root, .slice (some ⟨wo.heap.size, 0, none⟩) 1 1, .func (Fn.func 56) #[] #[.pointer (some ⟨wo.heap.size + 1, 0, none⟩)], .slice (some ad) (goodL l).length c6, .int .i64 (goodL l).length, .int .i64 n, .bool true, .slice (some ad) (goodL l).length c6, .int .i64 (goodL l).length, .int .i64 j, .bool true, .pointer (some (ad.add (j * 4))), .agg #[.int .i64 C.f0, .int .i64 C.f1, .int .i64 C.f2.f0, .int .i64 C.f2.f1], .func (Fn.func 56) #[] #[.pointer (some ⟨wo.heap.size + 1, 0, none⟩)], .pointer (some ⟨wi.heap.size, 0, none⟩), .int .i64 C.f0, .bool true, .bool true, .func (Fn.func 56) #[] #[.pointer (some ⟨wo.heap.size + 1, 0, none⟩)], .pointer (some ⟨wi.heap.size, 1, none⟩), .int .i64 C.f1, .bool false, .bool true, .bool true, .int .i64 i, .slice (some ⟨gv, 0, none⟩) o.length cv, .int .i64 o.length, .bool true, .bool true, .slice (some ⟨gv, 0, none⟩) o.length cv, .int .i64 i, .pointer (some ⟨gv, i, none⟩), .int .i64 (o[i]'hit), .pointer (some ⟨wi.heap.size, 1, none⟩), .int .i64 C.f1, .bool false, .bool false, u71, u72, vs 0, vs 1, vs 2, vs 3, vs 4, vs 5, vs 6, vs 7, vs 8, vs 9, vs 10, vs 11, u85, u86, undef] := hLt.symm
                          clear hLt
                          obtain ⟨v7, HR7⟩ := HR7.out
                          have HR7 := Aside0.mk HR7
                          go_wp2
                          go_roundw
                          case rel => exact ⟨_, _, .int .i64 ((j : Int) + 1), ⟨j + 1, by simp, ⟨hjt⟩, _, ⟨hstep.out.symm⟩, hR2, v7, HR7⟩, rfl, rfl, rfl⟩
                          case measure => simp [intOf]; omega
                      · obtain rfl : i = o.length := by omega
                        have d3 : decide ((o.length : Int) < (o.length : Int)) = false := decide_eq_false (by omega)
                        have hIns : Aside0 (o.take o.length ++ C.f1 :: o.drop o.length = insA C.f1 o) := ⟨ins_eq hi.out hlts.out (.inl rfl)⟩
                        go_wp2
                        go_quiet (fail)
                        go_wp2
                        have HRd := Aside0.mk (HRq.out.step (Drawn0.below ⟨⟨nq, rfl⟩⟩))
                        refine ins_region ⟨wr.drewN nq, wo.heap.size + 1, wi.heap.size, gv, cv, o, C, o.length⟩ w.heap.size _ _ rfl rfl rfl rfl HRd.out.cell HRd.out.out (blk_below HCq.out (Drawn0.below ⟨⟨nq, rfl⟩⟩)) hi.out hol.out ?_
                        intro vs w7 hP
                        have HR7 := Aside0.mk (HRd.out.ins hP)
                        rw [hIns.out, ← hS.out] at HR7
                        clear hP
                        generalize hLt : layF _ _ _ vs = LL
                        obtain rfl : LL = [.int .i64 root, .slice A l.length c, undef, undef, .slice none 0 0, .int .i64 0, .slice (some ad) (goodL l).length c6, undef, u8, .pointer (some ⟨wo.heap.size + 1, 0, none⟩), .func (Fn.func 56) #[] #[.pointer (some ⟨wo.heap.size + 1, 0, none⟩)], undef, .pointer (some ⟨wi.heap.size, 0, none⟩), .int .i64 o.length, .slice A l.length c, .int .i64 l.length, .bool false, .int .i64 root, .bool true, .bool false, .slice A l.length c, .int .i64 l.length, .int .i64 l.length, .bool false, u24, u25, u26, u27, u28, u29, u30, u31, u32, u33, .int .i64 root, .slice (some ⟨wo.heap.size, 0, none⟩) 1 1, .func (Fn.func 56) #[] #[.pointer (some ⟨wo.heap.size + 1, 0, none⟩)], .slice (some ad) (goodL l).length c6, .int .i64 (goodL l).length, .int .i64 n, .bool true, .slice (some ad) (goodL l).length c6, .int .i64 (goodL l).length, .int .i64 j, .bool true, .pointer (some (ad.add (j * 4))), .agg #[.int .i64 C.f0, .int .i64 C.f1, .int .i64 C.f2.f0, .int .i64 C.f2.f1], .func (Fn.func 56) #[] #[.pointer (some ⟨wo.heap.size + 1, 0, none⟩)], .pointer (some ⟨wi.heap.size, 0, none⟩), .int .i64 C.f0, .bool true, .bool true, .func (Fn.func 56) #[] #[.pointer (some ⟨wo.heap.size + 1, 0, none⟩)], .pointer (some ⟨wi.heap.size, 1, none⟩), .int .i64 C.f1, .bool false, .bool true, .bool true, .int .i64 o.length, .slice (some ⟨gv, 0, none⟩) o.length cv, .int .i64 o.length, .bool false, .bool false, undef, undef, undef, undef, undef, undef, undef, .bool false, u71, u72, vs 0, vs 1, vs 2, vs 3, vs 4, vs 5, vs 6, vs 7, vs 8, vs 9, vs 10, vs 11, u85, u86, undef] := hLt.symm
                        clear hLt
                        obtain ⟨v7, HR7⟩ := HR7.out
                        have HR7 := Aside0.mk HR7
                        go_wp2
                        go_roundw
                        case rel => exact ⟨_, _, .int .i64 ((j : Int) + 1), ⟨j + 1, by simp, ⟨hjt⟩, _, ⟨hstep.out.symm⟩, hR2, v7, HR7⟩, rfl, rfl, rfl⟩
                        case measure => simp [intOf]; omega
                · have hS : Aside0 (rstep o (C.f0, C.f1) = o) := ⟨by unfold rstep; rw [if_neg (fun h => c0 h.1)]⟩
                  rw [decide_eq_false c0] at H0
                  clear c0
                  go_wp2_with (go_at_call 56; first | (refine H0.out.mono ?_; clear H0; rintro e w5 ⟨rfl, rfl⟩) | (refine H1.out.mono ?_; rintro e w5 ⟨rfl, rfl⟩))
                  go_roundw
                  case rel => exact ⟨j + 1, o, vo, by simp, ⟨hjt⟩, ⟨by rw [hstep.out, hS.out]⟩, hR, HRa⟩
                  case measure => simp [intOf]; omega
              · obtain rfl : j = (goodL l).length := by omega
                have hE : Aside0 (o = rounds (edges l) (n + 1) [root]) := ⟨by rw [rounds_succ', ← ho0.out, ho.out, List.take_of_length_le (by rw [edges_good, List.length_map]; exact Nat.le_refl _)]; rfl⟩
                go_wp2
                go_roundw
                case rel => exact ⟨n + 1, o, vo, by simp, ⟨hnt⟩, hE, hR, HR⟩
                case measure => simp [intOf]; omega
          · obtain rfl : n = (goodL l).length := by omega
            have hE : Aside0 (o0 = reachL root l) := ⟨by rw [HZ.out.2, ho0.out, show (edges l).length = (goodL l).length from by rw [edges_good, List.length_map]]⟩
            have hcv : wr.cell? ⟨wo.heap.size + 1, 0, none⟩ = some vo0 := (blk_cell HR0.out.cell 0).trans rfl
            go_wp2
            go_ret2
            refine ⟨vo0, ?_, ?_, HR0.out.below⟩
            · rw [HZ.out.1]; rfl
            · rw [← hE.out]; exact HR0.out.out
end Go.Proofs.Ytjceapbbapofmaa.Q
