/- Walks: the reference's Clean. -/
import Derived.Test.YtdfnlcigbmiafaaUtfF
namespace Go.Proofs.Ytdfnlcigbmiafaa
open Go.RowKit
set_option linter.unusedVariables false
set_option linter.unusedSimpArgs false
theorem strOf_append (a b : List UInt8) : strOf a ++ strOf b = strOf (a ++ b) := by
  simp [strOf, ByteArray.mk_append_mk]
theorem strOf_nil : ({ data := #[] } : ByteArray) = strOf [] := rfl
theorem shown_bad {r : Nat} (h : (r < 32 ∧ r ≠ 9 ∧ r ≠ 10) ∨ (127 ≤ r ∧ r ≤ 159)) : shownN r = 65533 := by unfold shownN; rw [if_pos h]
theorem shown_self {r : Nat} (h : ¬ ((r < 32 ∧ r ≠ 9 ∧ r ≠ 10) ∨ (127 ≤ r ∧ r ≤ 159))) : shownN r = r := by unfold shownN; rw [if_neg h]
theorem piece_at {l : List UInt8} {r n : Nat} (h : next l = (r, n)) : piece l = if r = 13 then (if bt (l.drop n) 0 = 10 then [] else enc 10) else enc (shownN r) := by
  unfold piece; rw [h]
set_option maxRecDepth 100000 in
set_option maxHeartbeats 4000000 in
theorem rclean_any (s : ByteArray) (w : World) (hs : s.size ≤ 60000) :
    Calls Try.prog 37 #[.string s] w fun e w' => e = .returned (.string (strOf (clean s.data.toList))) ∧ Below w.heap.size w w' := by
  have hsz : ∀ l, (strOf l).size = l.length := strOf_size
  have hen0 : ({ data := #[] } : ByteArray) = strOf [] := rfl
  go_enter Try.func37, Try.ntmps37
  rw [hen0]
  clear hen0
  go_wp2_with fail
  go_loopw [3, 4] (fun o z wr => ∃ (k : Nat) (a : List UInt8), z = .int .i64 k ∧ o = .string (strOf a) ∧ k ≤ s.size ∧ a.length ≤ 4 * k ∧ clean s.data.toList = a ++ clean (s.data.toList.drop k) ∧ Below w.heap.size w wr) (fun _ z _ => s.size - (intOf z).toNat)
  case atStart => exact ⟨0, [], rfl, rfl, Nat.zero_le _, by simp, by simp, Below.refl _ _⟩
  case round =>
    obtain ⟨k, a, rfl, rfl, hk, ha, hg, hb⟩ := hrel
    have HG := Lib.hid hg
    clear hg
    by_cases hlt : k < s.size
    · obtain ⟨r, n, hn, hr, hn1, hn4, hkn, hne, hdd⟩ := next_at hlt
      have hgc := clean_cons hne
      have hpc := piece_at hn
      rw [hn] at hgc
      dsimp only at hgc
      rw [hdd] at hgc hpc
      have HN := Lib.hid (fun w => rnext_to s k r n w (by omega) hlt hn)
      have HF : Hid (clean s.data.toList = a ++ piece (s.data.toList.drop k) ++ clean (s.data.toList.drop (k + n))) := by
        show _ = _; rw [HG.out, hgc, List.append_assoc]
      have HP := Lib.hid hpc
      clear hn hne hdd hgc hpc
      by_cases h13 : r = 13
      · subst h13
        by_cases h10 : k + n < s.size ∧ bt (s.data.toList.drop (k + n)) 0 = 10
        · obtain ⟨hkn2, h10⟩ := h10
          have HQ : Hid (clean s.data.toList = a ++ clean (s.data.toList.drop (k + n))) := by show _ = _; rw [HF.out, HP.out, if_pos rfl, if_pos h10]; simp
          have hx := bt_at0 s (k + n) hkn2
          rw [h10] at hx
          have h10' := Lib.hid h10
          clear h10
          go_wp2_with fail
          refine (HN.out _).mono ?_
          rintro e w2 ⟨rfl, b2⟩
          go_wp2_with fail
          go_roundw
          case rel => exact ⟨k + n, a, by go_num, rfl, hkn, by omega, HQ.out, hb.trans (b2.mono hb.size)⟩
          case measure => simp [intOf]; omega
        · have HQ : Hid (clean s.data.toList = (a ++ enc 10) ++ clean (s.data.toList.drop (k + n))) := by
            show _ = _
            rw [HF.out, HP.out, if_pos rfl, if_neg]
            intro h
            by_cases hq : k + n < s.size
            · exact h10 ⟨hq, h⟩
            · rw [drop_end (by omega)] at h; simp [bt] at h
          have hl := enc_length 10
          by_cases hq : k + n < s.size
          · have hx := bt_at0 s (k + n) hq
            have hy : ((bt (s.data.toList.drop (k + n)) 0 : Int) == 10) = false := by
              simp only [beq_eq_false_iff_ne]; intro h; exact h10 ⟨hq, by omega⟩
            clear h10
            generalize bt (s.data.toList.drop (k + n)) 0 = c at *
            go_wp2_with fail
            refine (HN.out _).mono ?_
            rintro e w2 ⟨rfl, b2⟩
            go_wp2_with fail
            refine (rbytes_any 10 _).mono ?_
            rintro e w3 ⟨rfl, b3⟩
            go_wp2_with fail
            go_roundw
            case rel => exact ⟨k + n, a ++ enc 10, by go_num, by rw [strOf_append], hkn, by rw [List.length_append]; omega, HQ.out, (hb.trans (b2.mono hb.size)).trans (b3.mono (hb.trans (b2.mono hb.size)).size)⟩
            case measure => simp [intOf]; omega
          · clear h10
            go_wp2_with fail
            refine (HN.out _).mono ?_
            rintro e w2 ⟨rfl, b2⟩
            go_wp2_with fail
            refine (rbytes_any 10 _).mono ?_
            rintro e w3 ⟨rfl, b3⟩
            go_wp2_with fail
            go_roundw
            case rel => exact ⟨k + n, a ++ enc 10, by go_num, by rw [strOf_append], hkn, by rw [List.length_append]; omega, HQ.out, (hb.trans (b2.mono hb.size)).trans (b3.mono (hb.trans (b2.mono hb.size)).size)⟩
            case measure => simp [intOf]; omega
      · have HQ : Hid (clean s.data.toList = (a ++ enc (shownN r)) ++ clean (s.data.toList.drop (k + n))) := by
          show _ = _
          rw [HF.out, HP.out, if_neg h13]
        have hy13 : ((r : Int) == 13) = false := by simp; omega
        have hl := enc_length (shownN r)
        have hl1 := enc_length 65533
        have hl2 := enc_length 9
        have hl3 := enc_length 10
        have SH : (r < 32 ∧ ((r : Int) != 9) = true ∧ ((r : Int) != 10) = true ∧ shownN r = 65533) ∨ (127 ≤ r ∧ r ≤ 159 ∧ shownN r = 65533) ∨ (r = 9) ∨ (r = 10) ∨ (32 ≤ r ∧ r < 127 ∧ shownN r = r) ∨ (160 ≤ r ∧ shownN r = r) := by
          by_cases c1 : r < 32
          · by_cases c2 : r = 9
            · right; right; left; exact c2
            · by_cases c3 : r = 10
              · right; right; right; left; exact c3
              · left; exact ⟨c1, by simp; omega, by simp; omega, shown_bad (by omega)⟩
          · by_cases c2 : r < 127
            · right; right; right; right; left; exact ⟨by omega, c2, shown_self (by omega)⟩
            · by_cases c3 : r ≤ 159
              · right; left; exact ⟨by omega, c3, shown_bad (by omega)⟩
              · right; right; right; right; right; exact ⟨by omega, shown_self (by omega)⟩
        clear h13
        have c9 : shownN 9 = 9 := rfl
        have c10 : shownN 10 = 10 := rfl
        rcases SH with ⟨c1, c2, c3, c4⟩ | ⟨c1, c2, c4⟩ | c4 | c4 | ⟨c1, c2, c4⟩ | ⟨c1, c4⟩
        all_goals
          first | (subst c4; clear hy13; first | rw [c9] at HQ hl | rw [c10] at HQ hl) | (rw [c4] at HQ hl; clear c4)
          clear c9 c10
          go_wp2_with fail
          refine (HN.out _).mono ?_
          rintro e w2 ⟨rfl, b2⟩
          go_wp2_with fail
          refine (rbytes_any _ _).mono ?_
          rintro e w3 ⟨rfl, b3⟩
          go_wp2_with fail
          go_roundw
          case rel => exact ⟨k + n, a ++ enc _, by go_num, congrArg Value.string (strOf_append _ _), hkn, by rw [List.length_append]; omega, HQ.out, (hb.trans (b2.mono hb.size)).trans (b3.mono (hb.trans (b2.mono hb.size)).size)⟩
          case measure => simp [intOf]; omega
    · have HE : Hid (clean s.data.toList = a) := by show _ = _; rw [HG.out, drop_end (by omega), clean_nil, List.append_nil]
      go_wp2_with fail
      go_ret
      exact ⟨by rw [HE.out]; rfl, hb⟩
end Go.Proofs.Ytdfnlcigbmiafaa
