/- json.quoted, walked. -/
import Derived.Test.YtmecnjhjlhpehaaDoorQFm
import Derived.Test.YtmecnjhjlhpehaaDoorShelf
namespace Go.Proofs.YtmecnjhjlhpehaaDoor.Q
open Go.RowKit Go.Proofs.YtmecnjhjlhpehaaDoor.Plain Go.Proofs.YtmecnjhjlhpehaaDoorW.PrintWords Go.Proofs.YtmecnjhjlhpehaaDoorW.PrintLast Go.Proofs.YtmecnjhjlhpehaaDoorW.PrintMore
def shortI (c : Nat) : Int := if c = 8 then 0 else if c = 9 then 1 else if c = 10 then 2 else if c = 12 then 3 else if c = 13 then 4 else -1
theorem short_all : ∀ c : Fin 256, Lib.indexByte [8, 9, 10, 12, 13] (c.val.toUInt8) = shortI c.val := by decide +kernel
theorem short_walk (c : Nat) (hc : c < 256) (w : World) : Calls Tryd.prog 28 #[.string ⟨#[8, 9, 10, 12, 13]⟩, .int .u8 c] w fun e w' => e = .returned (.int .i64 (shortI c)) ∧ w' = w := by
  have h := Tryd.strings_IndexByte ⟨#[8, 9, 10, 12, 13]⟩ (c : Int) w
  rw [Int.toNat_natCast, short_all ⟨c, hc⟩] at h
  exact h
theorem ext1 (s : ByteArray) (i : Nat) (h : i < s.size) : (s.extract i (i + 1)).data.toList = [s[i]] := by
  have e : (s.extract i (i + 1)).data = s.data.extract i (i + 1) := ByteArray.data_extract
  rw [e, Array.toList_extract]
  have hl : i < s.data.toList.length := h
  rw [List.extract_eq_take_drop, List.drop_eq_getElem_cons hl]
  simp
  rfl
theorem next_cells {s : ByteArray} {i c : Nat} (h : i < s.size) (hc : (s[i]).toNat = c) {X : List Value} (hX : X = Lib.byteCells (quoteB c)) :
    Lib.byteCells (34 :: quoteL (s.data.toList.take i)) ++ X = Lib.byteCells (34 :: quoteL (s.data.toList.take (i + 1))) := by
  have hl : i < s.data.toList.length := h
  have e : (s.data.toList[i]).toNat = c := hc
  rw [quoteL_take hl, e, hX, ← Lib.byteCells_append]
  rfl
theorem cat_list (a b : ByteArray) : (a ++ b).data.toList = a.data.toList ++ b.data.toList := by
  have e : (a ++ b).data = a.data ++ b.data := ByteArray.data_append
  rw [e, Array.toList_append]
theorem size_list (a : ByteArray) : a.size = a.data.toList.length := Array.length_toList.symm
theorem tail_list (a b : UInt8) : ((⟨#[92, 117, 48, 48]⟩ : ByteArray) ++ (⟨#[49, a, b]⟩ : ByteArray).extract 1 3).data.toList = [92, 117, 48, 48, a, b] := by
  rw [cat_list, show (⟨#[49, a, b]⟩ : ByteArray).extract 1 3 = ⟨#[a, b]⟩ from by apply ByteArray.ext; rw [ByteArray.data_extract]; rfl]
  rfl
theorem atF_below {T e : TypeId} {B b : Nat} {q : Value} {bs : List Value} {w w' : World} (h : Lib.BuilderAtF T e B b q bs w) (hb : Below w.heap.size w w') : Lib.BuilderAtF T e B b q bs w' := by
  have hlt := h.lt
  obtain ⟨hB, v, h1, ⟨h2, h3⟩, h4⟩ := h
  refine ⟨hB, v, (hb.block b hlt).trans h1, ⟨h2, ?_⟩, h4⟩
  rcases h3 with h3 | ⟨g, cap, cur, fz, e1, e2, e3, rest⟩
  · exact .inl h3
  · exact .inr ⟨g, cap, cur, fz, e1, e2, (hb.block g (Array.getElem?_eq_some_iff.1 e3).1).trans e3, rest⟩
theorem isF_below {T e : TypeId} {B b : Nat} {bs : List Value} {w w' : World} (h : Lib.IsBuilderF T e B b bs w) (hb : Below w.heap.size w w') : Lib.IsBuilderF T e B b bs w' :=
  h.elim (fun h => .inl (atF_below h hb)) (fun h => .inr (atF_below h hb))
theorem cell_one {c : Nat} (h : c < 256) (hq : quoteB c = [UInt8.ofNat c]) : [Value.int .u8 (c : Int)] = Lib.byteCells (quoteB c) := by
  have e1 : (UInt8.ofNat c).toNat = c := UInt8.toNat_ofNat_of_lt' h
  rw [hq]
  show _ = [Value.int .u8 ((UInt8.ofNat c).toNat : Int)]
  rw [e1]
theorem cells_len (s : ByteArray) (hs : s.size ≤ 1000000000) (i : Nat) : (Lib.byteCells (34 :: quoteL (s.data.toList.take i))).length ≤ 6000000001 := by
  have h := quoteL_le (s.data.toList.take i)
  have h2 : (s.data.toList.take i).length ≤ s.size := by rw [List.length_take]; exact Nat.le_trans (Nat.min_le_right _ _) (Nat.le_of_eq Array.length_toList)
  rw [Lib.byteCells_length, List.length_cons]
  omega
set_option maxRecDepth 100000 in
set_option maxHeartbeats 8000000 in
theorem quoted_walk (s : ByteArray) (hs : s.size ≤ 1000000000) (w : World) (h15 : w.cell? ⟨3, 15, none⟩ = some (.int .u8 4)) : Calls Tryd.prog 21 #[.string s] w fun e w' => e = .returned (.string (quoteF s)) ∧ Below w.heap.size w w' := by
  have hA : Aside0 (∀ W, Below w.heap.size w W → W.cell? ⟨3, 15, none⟩ = some (.int .u8 4)) := ⟨fun W hW => (hW.cell (World.block_lt_of_cell? w _ h15)).trans h15⟩
  go_enter Tryd.func21, Tryd.ntmps21
  go_wp2_with (go_at_call 27; refine (Tryd.Builder_WriteByte_k w.heap.size w.heap.size [] 34 _ (Lib.IsBuilderF.of (Lib.fresh_isBuilder 44 5 w)) (by simp) (by simp)).mono ?_; rintro e w1 ⟨rfl, h1, b1, hk1⟩; clear hk1; have HI1 := Aside0.mk h1; have HB1 := Aside0.mk ((below_alloc (Below.refl w.heap.size w) _).trans b1); clear h1 b1)
  go_loopw [10] (fun v10 wr => ∃ i : Nat, v10 = .int .i64 i ∧ Aside0 (i ≤ s.size) ∧ Aside0 (Lib.IsBuilderF 44 5 w.heap.size w.heap.size (Lib.byteCells (34 :: quoteL (s.data.toList.take i))) wr) ∧ Aside0 (Below w.heap.size w wr)) (fun v10 _ => s.size - (intOf v10).toNat)
  case atStart => exact ⟨0, rfl, ⟨Nat.zero_le _⟩, ⟨Or.inr HI1.out⟩, HB1⟩
  case round =>
    obtain ⟨i, rfl, hi, HI, HB⟩ := hrel
    have hil := hi.out
    have hlen := Aside0.mk (cells_len s hs i)
    by_cases hlt : i < s.size
    · have hi1 : IntKind.i64.wrap ((i : Int) + 1) = (i : Int) + 1 := by unfold IntKind.wrap; simp [IntKind.signed, IntKind.bits]; omega
      have hi2 : 0 ≤ (i : Int) := by omega
      have hi3 : (i : Int) ≤ (i : Int) + 1 := by omega
      have hi4 : (i : Int) + 1 ≤ (s.size : Int) := by omega
      have hi5 : ((i : Int) + 1).toNat = i + 1 := by omega
      obtain ⟨c, hc⟩ : ∃ c, (s[i]).toNat = c := ⟨_, rfl⟩
      have hc256 : c < 256 := hc ▸ (s[i]).toNat_lt
      have hcc := Aside0.mk hc
      have hsz := Aside0.mk (below_size HB.out)
      by_cases hc34 : c = 34
      · subst hc34
        have hsh : shortI 34 = -1 := by decide
        have hex : (⟨#[92]⟩ ++ s.extract i (i + 1) : ByteArray).data.toList = quoteB 34 := by rw [cat_list, ext1 s i hlt, show s[i] = 34 from UInt8.toNat_inj.1 hcc.out]; decide
        have hszA : Aside0 ((⟨#[92]⟩ ++ s.extract i (i + 1) : ByteArray).size = 2) := ⟨(size_list _).trans (by rw [hex]; decide)⟩
        have hexA := Aside0.mk hex
        clear hex
        go_wp2_with (first | (go_at_call 28; refine (short_walk 34 (by omega) _).mono ?_; rintro e w2 ⟨rfl, rfl⟩) | (go_at_call 29; refine (Tryd.Builder_WriteString_k w.heap.size w.heap.size _ _ _ HI.out (by have := hlen.out; have h3 := hszA.out; omega) hsz.out).mono ?_; rintro e w3 ⟨rfl, h3, b3, hk3⟩; clear hk3; have HI3 := Aside0.mk h3; have HB3 := Aside0.mk (HB.out.trans b3); clear h3 b3))
        go_roundw
        case rel => exact ⟨i + 1, by simp, ⟨hlt⟩, ⟨by
          have h := HI3.out
          have e := next_cells (X := Lib.byteCells (⟨#[92]⟩ ++ s.extract i (i + 1) : ByteArray).data.toList) hlt hcc.out (by rw [hexA.out])
          rw [← e]
          exact Or.inr h⟩, HB3⟩
        case measure => simp [intOf]; omega
      by_cases hc92 : c = 92
      · subst hc92
        have hsh : shortI 92 = -1 := by decide
        have hex : (⟨#[92]⟩ ++ s.extract i (i + 1) : ByteArray).data.toList = quoteB 92 := by rw [cat_list, ext1 s i hlt, show s[i] = 92 from UInt8.toNat_inj.1 hcc.out]; decide
        have hszA : Aside0 ((⟨#[92]⟩ ++ s.extract i (i + 1) : ByteArray).size = 2) := ⟨(size_list _).trans (by rw [hex]; decide)⟩
        have hexA := Aside0.mk hex
        clear hex
        go_wp2_with (first | (go_at_call 28; refine (short_walk 92 (by omega) _).mono ?_; rintro e w2 ⟨rfl, rfl⟩) | (go_at_call 29; refine (Tryd.Builder_WriteString_k w.heap.size w.heap.size _ _ _ HI.out (by have := hlen.out; have h3 := hszA.out; omega) hsz.out).mono ?_; rintro e w3 ⟨rfl, h3, b3, hk3⟩; clear hk3; have HI3 := Aside0.mk h3; have HB3 := Aside0.mk (HB.out.trans b3); clear h3 b3))
        go_roundw
        case rel => exact ⟨i + 1, by simp, ⟨hlt⟩, ⟨by
          have h := HI3.out
          have e := next_cells (X := Lib.byteCells (⟨#[92]⟩ ++ s.extract i (i + 1) : ByteArray).data.toList) hlt hcc.out (by rw [hexA.out])
          rw [← e]
          exact Or.inr h⟩, HB3⟩
        case measure => simp [intOf]; omega
      by_cases hc8 : c = 8
      · subst hc8
        have hsh : shortI 8 = 0 := by decide
        have hex : (⟨#[92]⟩ ++ (⟨#[98, 116, 110, 102, 114]⟩ : ByteArray).extract 0 1 : ByteArray).data.toList = quoteB 8 := by decide +kernel
        have hszA : Aside0 ((⟨#[92]⟩ ++ (⟨#[98, 116, 110, 102, 114]⟩ : ByteArray).extract 0 1 : ByteArray).size = 2) := ⟨by decide +kernel⟩
        have hexA := Aside0.mk hex
        clear hex
        go_wp2_with (first | (go_at_call 28; refine (short_walk 8 (by omega) _).mono ?_; rintro e w2 ⟨rfl, rfl⟩) | (go_at_call 29; refine (Tryd.Builder_WriteString_k w.heap.size w.heap.size _ _ _ HI.out (by have := hlen.out; have h3 := hszA.out; omega) hsz.out).mono ?_; rintro e w3 ⟨rfl, h3, b3, hk3⟩; clear hk3; have HI3 := Aside0.mk h3; have HB3 := Aside0.mk (HB.out.trans b3); clear h3 b3))
        go_roundw
        case rel => exact ⟨i + 1, by simp, ⟨hlt⟩, ⟨by
          have h := HI3.out
          have e := next_cells (X := Lib.byteCells (⟨#[92]⟩ ++ (⟨#[98, 116, 110, 102, 114]⟩ : ByteArray).extract 0 1 : ByteArray).data.toList) hlt hcc.out (by rw [hexA.out])
          rw [← e]
          exact Or.inr h⟩, HB3⟩
        case measure => simp [intOf]; omega
      by_cases hc9 : c = 9
      · subst hc9
        have hsh : shortI 9 = 1 := by decide
        have hex : (⟨#[92]⟩ ++ (⟨#[98, 116, 110, 102, 114]⟩ : ByteArray).extract 1 2 : ByteArray).data.toList = quoteB 9 := by decide +kernel
        have hszA : Aside0 ((⟨#[92]⟩ ++ (⟨#[98, 116, 110, 102, 114]⟩ : ByteArray).extract 1 2 : ByteArray).size = 2) := ⟨by decide +kernel⟩
        have hexA := Aside0.mk hex
        clear hex
        go_wp2_with (first | (go_at_call 28; refine (short_walk 9 (by omega) _).mono ?_; rintro e w2 ⟨rfl, rfl⟩) | (go_at_call 29; refine (Tryd.Builder_WriteString_k w.heap.size w.heap.size _ _ _ HI.out (by have := hlen.out; have h3 := hszA.out; omega) hsz.out).mono ?_; rintro e w3 ⟨rfl, h3, b3, hk3⟩; clear hk3; have HI3 := Aside0.mk h3; have HB3 := Aside0.mk (HB.out.trans b3); clear h3 b3))
        go_roundw
        case rel => exact ⟨i + 1, by simp, ⟨hlt⟩, ⟨by
          have h := HI3.out
          have e := next_cells (X := Lib.byteCells (⟨#[92]⟩ ++ (⟨#[98, 116, 110, 102, 114]⟩ : ByteArray).extract 1 2 : ByteArray).data.toList) hlt hcc.out (by rw [hexA.out])
          rw [← e]
          exact Or.inr h⟩, HB3⟩
        case measure => simp [intOf]; omega
      by_cases hc10 : c = 10
      · subst hc10
        have hsh : shortI 10 = 2 := by decide
        have hex : (⟨#[92]⟩ ++ (⟨#[98, 116, 110, 102, 114]⟩ : ByteArray).extract 2 3 : ByteArray).data.toList = quoteB 10 := by decide +kernel
        have hszA : Aside0 ((⟨#[92]⟩ ++ (⟨#[98, 116, 110, 102, 114]⟩ : ByteArray).extract 2 3 : ByteArray).size = 2) := ⟨by decide +kernel⟩
        have hexA := Aside0.mk hex
        clear hex
        go_wp2_with (first | (go_at_call 28; refine (short_walk 10 (by omega) _).mono ?_; rintro e w2 ⟨rfl, rfl⟩) | (go_at_call 29; refine (Tryd.Builder_WriteString_k w.heap.size w.heap.size _ _ _ HI.out (by have := hlen.out; have h3 := hszA.out; omega) hsz.out).mono ?_; rintro e w3 ⟨rfl, h3, b3, hk3⟩; clear hk3; have HI3 := Aside0.mk h3; have HB3 := Aside0.mk (HB.out.trans b3); clear h3 b3))
        go_roundw
        case rel => exact ⟨i + 1, by simp, ⟨hlt⟩, ⟨by
          have h := HI3.out
          have e := next_cells (X := Lib.byteCells (⟨#[92]⟩ ++ (⟨#[98, 116, 110, 102, 114]⟩ : ByteArray).extract 2 3 : ByteArray).data.toList) hlt hcc.out (by rw [hexA.out])
          rw [← e]
          exact Or.inr h⟩, HB3⟩
        case measure => simp [intOf]; omega
      by_cases hc12 : c = 12
      · subst hc12
        have hsh : shortI 12 = 3 := by decide
        have hex : (⟨#[92]⟩ ++ (⟨#[98, 116, 110, 102, 114]⟩ : ByteArray).extract 3 4 : ByteArray).data.toList = quoteB 12 := by decide +kernel
        have hszA : Aside0 ((⟨#[92]⟩ ++ (⟨#[98, 116, 110, 102, 114]⟩ : ByteArray).extract 3 4 : ByteArray).size = 2) := ⟨by decide +kernel⟩
        have hexA := Aside0.mk hex
        clear hex
        go_wp2_with (first | (go_at_call 28; refine (short_walk 12 (by omega) _).mono ?_; rintro e w2 ⟨rfl, rfl⟩) | (go_at_call 29; refine (Tryd.Builder_WriteString_k w.heap.size w.heap.size _ _ _ HI.out (by have := hlen.out; have h3 := hszA.out; omega) hsz.out).mono ?_; rintro e w3 ⟨rfl, h3, b3, hk3⟩; clear hk3; have HI3 := Aside0.mk h3; have HB3 := Aside0.mk (HB.out.trans b3); clear h3 b3))
        go_roundw
        case rel => exact ⟨i + 1, by simp, ⟨hlt⟩, ⟨by
          have h := HI3.out
          have e := next_cells (X := Lib.byteCells (⟨#[92]⟩ ++ (⟨#[98, 116, 110, 102, 114]⟩ : ByteArray).extract 3 4 : ByteArray).data.toList) hlt hcc.out (by rw [hexA.out])
          rw [← e]
          exact Or.inr h⟩, HB3⟩
        case measure => simp [intOf]; omega
      by_cases hc13 : c = 13
      · subst hc13
        have hsh : shortI 13 = 4 := by decide
        have hex : (⟨#[92]⟩ ++ (⟨#[98, 116, 110, 102, 114]⟩ : ByteArray).extract 4 5 : ByteArray).data.toList = quoteB 13 := by decide +kernel
        have hszA : Aside0 ((⟨#[92]⟩ ++ (⟨#[98, 116, 110, 102, 114]⟩ : ByteArray).extract 4 5 : ByteArray).size = 2) := ⟨by decide +kernel⟩
        have hexA := Aside0.mk hex
        clear hex
        go_wp2_with (first | (go_at_call 28; refine (short_walk 13 (by omega) _).mono ?_; rintro e w2 ⟨rfl, rfl⟩) | (go_at_call 29; refine (Tryd.Builder_WriteString_k w.heap.size w.heap.size _ _ _ HI.out (by have := hlen.out; have h3 := hszA.out; omega) hsz.out).mono ?_; rintro e w3 ⟨rfl, h3, b3, hk3⟩; clear hk3; have HI3 := Aside0.mk h3; have HB3 := Aside0.mk (HB.out.trans b3); clear h3 b3))
        go_roundw
        case rel => exact ⟨i + 1, by simp, ⟨hlt⟩, ⟨by
          have h := HI3.out
          have e := next_cells (X := Lib.byteCells (⟨#[92]⟩ ++ (⟨#[98, 116, 110, 102, 114]⟩ : ByteArray).extract 4 5 : ByteArray).data.toList) hlt hcc.out (by rw [hexA.out])
          rw [← e]
          exact Or.inr h⟩, HB3⟩
        case measure => simp [intOf]; omega
      by_cases hlo : c < 32
      · have hsh : shortI c = -1 := by simp [shortI, *]
        have d0 : decide ((c : Int) < 32) = true := decide_eq_true (by omega)
        have d1 : ((c : Int) == 34) = false := by simp; omega
        have d2 : ((c : Int) == 92) = false := by simp; omega
        have hw : IntKind.i64.wrap ((c : Int) + 256) = 256 + (c : Int) := by unfold IntKind.wrap; simp [IntKind.signed, IntKind.bits]; omega
        have hw2 : IntKind.i64.wrap (c : Int) = (c : Int) := by unfold IntKind.wrap; simp [IntKind.signed, IntKind.bits]; omega
        have hqb : quoteB c = [92, 117, 48, 48, hexD (c / 16), hexD (c % 16)] := by simp [quoteB, *]
        have hqA := Aside0.mk hqb
        clear hqb
        have hszA : Aside0 (((⟨#[92, 117, 48, 48]⟩ : ByteArray) ++ (⟨#[49, hexD (c / 16), hexD (c % 16)]⟩ : ByteArray).extract 1 3).size = 6) := ⟨by rw [size_list, tail_list]; rfl⟩
        go_wp2_with (first | (go_at_call 28; refine (short_walk c (by omega) _).mono ?_; rintro e w2 ⟨rfl, rfl⟩) | (go_at_call 30; refine (fmt16 c (by omega) ⟨hc8, hc9, hc10, hc12, hc13⟩ _ (hA.out _ HB.out)).mono ?_; rintro e w2 ⟨rfl, hb2⟩; have HB2 := Aside0.mk (below_step HB.out hb2); have HI2 := Aside0.mk (isF_below HI.out hb2); clear hb2) | (go_at_call 29; refine (Tryd.Builder_WriteString_k w.heap.size w.heap.size _ _ _ HI2.out (by have := hlen.out; have h3 := hszA.out; omega) (below_size HB2.out)).mono ?_; rintro e w3 ⟨rfl, h3, b3, hk3⟩; clear hk3; have HI3 := Aside0.mk h3; have HB3 := Aside0.mk (HB2.out.trans b3); clear h3 b3))
        go_roundw
        case rel => exact ⟨i + 1, by simp, ⟨hlt⟩, ⟨by
          have h := HI3.out
          have e := next_cells (X := Lib.byteCells ((⟨#[92, 117, 48, 48]⟩ : ByteArray) ++ (⟨#[49, hexD (c / 16), hexD (c % 16)]⟩ : ByteArray).extract 1 3).data.toList) hlt hcc.out (by rw [tail_list, hqA.out])
          rw [← e]
          exact Or.inr h⟩, HB3⟩
        case measure => simp [intOf]; omega
      · have hsh : shortI c = -1 := by simp [shortI, *]
        have d0 : decide ((c : Int) < 32) = false := decide_eq_false (by omega)
        have d1 : ((c : Int) == 34) = false := by simp; omega
        have d2 : ((c : Int) == 92) = false := by simp; omega
        have hqb : quoteB c = [UInt8.ofNat c] := by simp [quoteB, *]
        have hqA := Aside0.mk hqb
        clear hqb
        go_wp2_with (first | (go_at_call 28; refine (short_walk c (by omega) _).mono ?_; rintro e w2 ⟨rfl, rfl⟩) | (go_at_call 27; refine (Tryd.Builder_WriteByte_k w.heap.size w.heap.size _ _ _ HI.out (by have := hlen.out; omega) hsz.out).mono ?_; rintro e w3 ⟨rfl, h3, b3, hk3⟩; clear hk3; have HI3 := Aside0.mk h3; have HB3 := Aside0.mk (HB.out.trans b3); clear h3 b3))
        go_roundw
        case rel => exact ⟨i + 1, by simp, ⟨hlt⟩, ⟨by
          have h := HI3.out
          have e := next_cells (X := [.int .u8 (c : Int)]) hlt hcc.out (cell_one hc256 hqA.out)
          rw [← e]
          exact Or.inr h⟩, HB3⟩
        case measure => simp [intOf]; omega
    · have he : s.data.toList.take i = s.data.toList := List.take_of_length_le (by rw [Array.length_toList]; exact Nat.le_of_not_lt hlt)
      have heA := Aside0.mk he
      clear he
      have hsz := Aside0.mk (below_size HB.out)
      go_wp2_with (first | (go_at_call 27; refine (Tryd.Builder_WriteByte_k w.heap.size w.heap.size _ 34 _ HI.out (by have := hlen.out; omega) hsz.out).mono ?_; rintro e w3 ⟨rfl, h3, b3, hk3⟩; clear hk3; rw [heA.out, show Lib.byteCells (34 :: quoteL s.data.toList) ++ [Value.int .u8 34] = Lib.byteCells (34 :: quoteL s.data.toList ++ [34]) from (Lib.byteCells_append _ [34]).symm] at h3; have HI3 : Aside0 (Lib.IsBuilderF 44 5 w.heap.size w.heap.size (Lib.byteCells (34 :: quoteL s.data.toList ++ [34])) w3) := ⟨Or.inr h3⟩; have HB3 := Aside0.mk (HB.out.trans b3); clear h3 b3) | (go_at_call 31; refine (Tryd.Builder_String_any_k w.heap.size w.heap.size _ _ HI3.out (below_size HB3.out)).mono ?_; rintro e w4 ⟨rfl, h4⟩; have HB4 := Aside0.mk (HB3.out.trans h4.2.1); clear h4))
      go_ret
      exact ⟨rfl, HB4.out⟩
end Go.Proofs.YtmecnjhjlhpehaaDoor.Q
