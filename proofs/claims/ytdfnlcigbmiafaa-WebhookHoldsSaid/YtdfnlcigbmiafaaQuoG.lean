/- Walks: the program's Write. -/
import Derived.Test.YtdfnlcigbmiafaaQuoF
import Derived.Test.YtdfnlcigbmiafaaBW
namespace Go.Proofs.Ytdfnlcigbmiafaa
open Go.RowKit
set_option linter.unusedVariables false
set_option linter.unusedSimpArgs false
theorem build_in (n b : Nat) (w w2 : World) (hb : b = w.heap.size) (hn : n = w2.heap.size)
    (h2 : Below (w.heap.size + 1) (w.alloc (.cells #[.pointer none, .slice none 0 0] 67)) w2) : Build n b [] w2 := by
  subst hb hn
  have hk := (Blk.new w 67 #[.pointer none, .slice none 0 0]).below h2 (by omega)
  exact .inl ⟨hk.lt, _, hk, by simp, .inl ⟨rfl, rfl⟩⟩
set_option maxRecDepth 100000 in
set_option maxHeartbeats 4000000 in
theorem write_any (s : ByteArray) (w : World) (hs : s.size ≤ 60000) :
    Calls Try.prog 17 #[.string s] w fun e w' => e = .returned (.string (strOf (writeJ s.data.toList))) ∧ Below w.heap.size w w' := by
  have HR := Lib.hid (fun w => prunes_any s w hs)
  have hN := runes_length_le s.data.toList
  rw [← sz_len] at hN
  have hN4 : (runes s.data.toList).length ≤ 60000 := by omega
  have HT := Lib.hid (runes_top s.data.toList)
  have HW : Hid (writeJ s.data.toList = (runes s.data.toList).flatMap wrJ) := rfl
  generalize runes s.data.toList = rs at *
  clear hN
  go_enter Try.func17, Try.ntmps17
  go_wp2_with fail
  refine (HR.out _).mono ?_
  rintro e w2 ⟨v, rfl, ho, b2⟩
  rw [World.size_alloc] at ho b2
  have HU := Lib.hid (build_in w2.heap.size w.heap.size w w2 rfl rfl b2)
  have hbel : Below w.heap.size w w2 := ((Below.refl _ w).alloc (Nat.le_refl _) _).trans (b2.mono (by omega))
  have hz2 := b2.size
  rw [World.size_alloc] at hz2
  have r1 : ∃ ao cap, v = .slice ao rs.length cap ∧ (rs.length = 0 ∨ ∃ g, ao = some ⟨g, 0, none⟩ ∧ w.heap.size < g ∧ g < w2.heap.size ∧ ∀ j, j < rs.length → w2.cell? ⟨g, j, none⟩ = some (.int .i32 (rs.getD j 0 : Nat))) := by
    rcases ho.2 with ⟨rfl, h0⟩ | ⟨g, cap, cur, rfl, hg, hh, _⟩
    · exact ⟨none, 0, by rw [h0], .inl h0⟩
    · refine ⟨_, _, rfl, .inr ⟨g, rfl, by omega, (Array.getElem?_eq_some_iff.1 hh).1, fun j hj => ?_⟩⟩
      rw [ho.cellAt j (by omega), List.getElem?_map, List.getElem?_eq_getElem hj, List.getD_eq_getElem?_getD, List.getElem?_eq_getElem hj]; rfl
  clear ho b2
  obtain ⟨ao, cap, rfl, h1⟩ := r1
  have H1 := Lib.hid h1
  have HB := Lib.hid hbel
  clear h1 hbel
  go_wp2_with fail
  go_loopw [9] (fun z wr => ∃ (k : Nat), z = .int .i64 k ∧ k ≤ rs.length ∧ Build w2.heap.size w.heap.size ((rs.take k).flatMap wrJ) wr ∧ Bnd w2.heap.size w.heap.size w2 wr) (fun z _ => rs.length - (intOf z).toNat)
  case atStart => exact ⟨0, rfl, Nat.zero_le _, HU.out, Bnd.refl _ _ _⟩
  case round =>
    obtain ⟨k, rfl, hk, hU, hB⟩ := hrel
    have hjl := flat_length (rs.take k)
    rw [List.length_take] at hjl
    clear HU
    by_cases hlt : k < rs.length
    · obtain ⟨g1, rfl, hg0, hg1, hc1⟩ := H1.out.resolve_left (by omega)
      have c1 := (World.cell?_of_block (w := w2) (a := ⟨g1, k, none⟩) (hB.block g1 hg1 (by omega))).trans (hc1 k hlt)
      have hr := HT.out (rs.getD k 0) (by rw [List.getD_eq_getElem?_getD, List.getElem?_eq_getElem hlt]; simp)
      have HQ : Hid ((rs.take k).flatMap wrJ ++ wrJ (rs.getD k 0) = (rs.take (k + 1)).flatMap wrJ) := (wr_take rs k hlt).symm
      have hz3 := hB.size
      generalize (rs.take k).flatMap wrJ = l at *
      generalize rs.getD k 0 = r at *
      have HH := Lib.hid (fun w => how_any r w hr)
      have HL := Lib.hid (fun w => letter_any r w hr)
      have HUb := Lib.hid hU
      have HBb := Lib.hid hB
      clear hc1 H1 HT HR hU hB
      have hkind : howN r = 1 ∨ howN r = 2 ∨ howN r = 0 := by unfold howN; split <;> (try split) <;> simp
      rcases hkind with hh | hh | hh
      · have hl0 : letN r ≠ 0 := by
          intro h; unfold howN at hh; rw [if_neg (by simpa using h)] at hh; split at hh <;> omega
        have hl1 := (letR_letN hl0).2.1
        rw [hh] at HH
        have HQ2 : Hid (l ++ [UInt8.ofNat 92] ++ [UInt8.ofNat (letN r)] = (rs.take (k + 1)).flatMap wrJ) := by
          show _ = _; rw [← HQ.out, wrJ_short hl0]; simp
        have HW1 := Lib.hid (writeByte_any _ _ _ 92 wr HUb.out hz3 (by omega) (by omega))
        have HW2 := Lib.hid (fun w' (hu : Build w2.heap.size w.heap.size (l ++ [UInt8.ofNat 92]) w') (hz : w2.heap.size ≤ w'.heap.size) => writeByte_any _ _ _ (letN r) w' hu hz (by simp; omega) (by omega))
        clear hh hl0 HQ
        generalize letN r = c at *
        go_wp2_with fail
        refine (HH.out _).mono ?_
        rintro e w' ⟨rfl, rfl⟩
        go_wp2_with fail
        refine HW1.out.mono ?_
        rintro e w3 ⟨rfl, u3, b3⟩
        go_wp2_with fail
        refine (HL.out _).mono ?_
        rintro e w' ⟨rfl, rfl⟩
        go_wp2_with fail
        refine (HW2.out _ u3 (Nat.le_trans hz3 b3.size)).mono ?_
        rintro e w4 ⟨rfl, u4, b4⟩
        go_wp2_with fail
        go_roundw
        case rel => exact ⟨k + 1, by go_num, hlt, by rw [← HQ2.out]; exact u4, (HBb.out.trans b3).trans b4⟩
        case measure => simp [intOf]; omega
      · have hl0 : letN r = 0 ∧ longN r := by
          unfold howN at hh; split at hh
          · omega
          · rename_i h; split at hh
            · rename_i h2; exact ⟨by simpa using h, h2⟩
            · omega
        have hlt2 := longN_lt hl0.2
        rw [hh] at HH
        have HP1 := Lib.hid (fun w => pair_any (r / 256) w (by omega))
        have HP2 := Lib.hid (fun w => pair_any (r % 256) w (by omega))
        rw [show ((r / 256 : Nat) : Int) = (r : Int) / 256 by omega] at HP1
        rw [show ((r % 256 : Nat) : Int) = (r : Int) % 256 by omega] at HP2
        have e0 : (r : Int) / 256 < 256 := by omega
        have e1 : 0 ≤ (r : Int) / 256 := by omega
        have hS : ({ data := #[92, 117] } : ByteArray) ++ strOf (pairL (r / 256)) ++ strOf (pairL (r % 256)) = strOf (wrJ r) := by
          rw [wrJ_long hl0.1 hl0.2]; rfl
        have hS1 : (({ data := #[92, 117] } : ByteArray) ++ strOf (pairL (r / 256))).size = 4 := rfl
        have hS2 : (strOf (pairL (r % 256))).size = 2 := rfl
        have hS3 : (strOf (pairL (r / 256))).size = 2 := rfl
        have HW1 := Lib.hid (fun w' (hu : Build w2.heap.size w.heap.size l w') (hz : w2.heap.size ≤ w'.heap.size) => writeString_any _ _ _ (strOf (wrJ r)) w' hu hz (by rw [strOf_size]; have := wrJ_length r; omega))
        rw [strOf_list, HQ.out] at HW1
        clear hh hl0 HQ hlt2
        generalize strOf (pairL (r / 256)) = x at *
        generalize strOf (pairL (r % 256)) = y at *
        go_wp2_with fail
        refine (HH.out _).mono ?_
        rintro e w' ⟨rfl, rfl⟩
        go_wp2_with fail
        refine (HP1.out _).mono ?_
        rintro e w3 ⟨rfl, b3⟩
        go_wp2_with fail
        refine (HP2.out _).mono ?_
        rintro e w4 ⟨rfl, b4⟩
        have b5 := b3.trans (b4.mono b3.size)
        have u5 := build_below HUb.out b5
        have bb := Bnd.of_below (n := w2.heap.size) (g := w.heap.size) (b5.mono hz3) (keepsOthers_below b5)
        go_wp2_with fail
        refine (HW1.out _ u5 (Nat.le_trans hz3 b5.size)).mono ?_
        rintro e w6 ⟨rfl, u6, b6⟩
        go_wp2_with fail
        go_roundw
        case rel => exact ⟨k + 1, by go_num, hlt, u6, (HBb.out.trans bb).trans b6⟩
        case measure => simp [intOf]; omega
      · have hl0 : wrJ r = enc r := by
          unfold howN at hh; split at hh
          · omega
          · rename_i h; split at hh
            · omega
            · rename_i h2; exact wrJ_self (by simpa using h) h2
        rw [hh] at HH
        have HP := Lib.hid (fun w => pbytes_any r w)
        have HW1 := Lib.hid (fun w' (hu : Build w2.heap.size w.heap.size l w') (hz : w2.heap.size ≤ w'.heap.size) => writeString_any _ _ _ (strOf (enc r)) w' hu hz (by rw [strOf_size]; have := enc_length r; omega))
        rw [strOf_list, ← hl0, HQ.out] at HW1
        rw [← hl0] at HP
        clear hh hl0 HQ
        generalize strOf (wrJ r) = x at *
        go_wp2_with fail
        refine (HH.out _).mono ?_
        rintro e w' ⟨rfl, rfl⟩
        go_wp2_with fail
        refine (HP.out _).mono ?_
        rintro e w3 ⟨rfl, b5⟩
        have u5 := build_below HUb.out b5
        have bb := Bnd.of_below (n := w2.heap.size) (g := w.heap.size) (b5.mono hz3) (keepsOthers_below b5)
        go_wp2_with fail
        refine (HW1.out _ u5 (Nat.le_trans hz3 b5.size)).mono ?_
        rintro e w6 ⟨rfl, u6, b6⟩
        go_wp2_with fail
        go_roundw
        case rel => exact ⟨k + 1, by go_num, hlt, u6, (HBb.out.trans bb).trans b6⟩
        case measure => simp [intOf]; omega
    · have hkk : k = rs.length := by omega
      subst hkk
      rw [List.take_length] at *
      have HS := Lib.hid (builder_String _ _ _ wr hU (by have := hB.size; omega))
      have hfin := HB.out.trans (hB.below (Nat.le_refl _) (by omega))
      go_wp2_with fail
      refine HS.out.mono ?_
      rintro e w3 ⟨rfl, b3⟩
      go_wp2_with fail
      go_ret
      exact ⟨by rw [HW.out]; rfl, hfin.trans b3⟩
end Go.Proofs.Ytdfnlcigbmiafaa
