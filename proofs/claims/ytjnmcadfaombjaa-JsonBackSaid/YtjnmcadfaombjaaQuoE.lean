/- Walks: the document's One. -/
import Derived.Test.YtjnmcadfaombjaaQuoD
namespace Go.Proofs.Ytjnmcadfaombjaa
open Go.RowKit
set_option linter.unusedVariables false
set_option linter.unusedSimpArgs false
def roneV (o : Option (Nat × Nat)) : Value := match o with | some p => .tuple #[.int .i64 p.1, .int .i64 p.2, .bool true] | none => .tuple #[.int .i64 0, .int .i64 0, .bool false]
theorem unitI_none {l : List UInt8} {k : Nat} (h : unitAt l k = none) : unitI l k = -1 := by unfold unitI; rw [h]
theorem unitI_some {l : List UInt8} {k a : Nat} (h : unitAt l k = some a) : unitI l k = a := by unfold unitI; rw [h]
theorem rbegins_letter (s : ByteArray) (k c j : Nat) (w : World) (hs : s.size ≤ 1000000) (hc : bt s.data.toList (k + 1) = c) (hj : j < 7) (b : Bool) (hb : decide (c = tL j) = b) :
    Calls Try.prog 43 #[.string s, .string (strOf [UInt8.ofNat (tL j)]), .int .i64 ((k : Int) + 1)] w fun e w' => e = .returned (.bool b) ∧ w = w' := by
  have hz : (strOf [UInt8.ofNat (tL j)]).size ≤ 9223372036854775807 := by rw [strOf_size]; simp
  have h := rbegins_any s (strOf [UInt8.ofNat (tL j)]) (k + 1) w (by omega) hz
  have e : (UInt8.ofNat (tL j)).toNat = tL j := by rcases seven hj with rfl | rfl | rfl | rfl | rfl | rfl | rfl <;> rfl
  have e0 : tL j ≠ 0 := by rcases seven hj with rfl | rfl | rfl | rfl | rfl | rfl | rfl <;> decide
  rw [strOf_list, begins_one _ _ _ (by rw [e]; exact e0), e, hc, hb, show ((k + 1 : Nat) : Int) = (k : Int) + 1 by omega] at h
  exact h
theorem rbegins_slash (s : ByteArray) (k c : Nat) (w : World) (hs : s.size ≤ 1000000) (hc : bt s.data.toList (k + 1) = c) (b : Bool) (hb : decide (c = 47) = b) :
    Calls Try.prog 43 #[.string s, .string ⟨#[47]⟩, .int .i64 ((k : Int) + 1)] w fun e w' => e = .returned (.bool b) ∧ w = w' := by
  have h := rbegins_any s ⟨#[47]⟩ (k + 1) w (by omega) (by decide)
  have h2 : beginsL s.data.toList (⟨#[47]⟩ : ByteArray).data.toList (k + 1) = b := by
    have := begins_one s.data.toList 47 (k + 1) (by decide)
    rw [hc] at this
    exact this.trans hb
  rw [h2, show ((k + 1 : Nat) : Int) = (k : Int) + 1 by omega] at h
  exact h
set_option maxRecDepth 100000 in
set_option maxHeartbeats 2000000 in
theorem rone_esc (s : ByteArray) (k : Nat) (w : World) (hs : s.size ≤ 1000000) (hk : k < s.size) (h92 : bt s.data.toList k = 92) :
    Calls Try.prog 64 #[.string s, .int .i64 k] w fun e w' => e = .returned (roneV (oneJ (s.data.toList.drop k))) ∧ Below w.heap.size w w' := by
  have hx := bt_byte s k hk
  have HO := Lib.hid (one_esc s k hk h92)
  rw [h92] at hx
  have HE := Lib.hid (fun r => escJ_letter (l := s.data.toList) (k := k) (r := r))
  have HU := Lib.hid (escJ_unit (l := s.data.toList) (k := k))
  obtain ⟨c, hc⟩ : ∃ c, bt s.data.toList (k + 1) = c := ⟨_, rfl⟩
  have HBL := Lib.hid (fun j w hj b hb => rbegins_letter s k c j w hs hc hj b hb)
  have HBS := Lib.hid (fun w b hb => rbegins_slash s k c w hs hc b hb)
  rw [hc] at HE HU
  have HS := Lib.hid (rshort_any w)
  have HQ := Lib.hid (fun w => runit_any s k w hs (by omega))
  have HQ6 := Lib.hid (fun w => runit_any s (k + 6) w hs (by omega))
  rw [show ((k + 6 : Nat) : Int) = (k : Int) + 6 by omega] at HQ6
  clear hc h92
  go_enter Try.func64, Try.ntmps64
  go_wp2_with fail
  refine HS.out.mono ?_
  rintro e w1 ⟨rfl, hw1⟩
  have hk1 : Blk w1 w.heap.size 3 shortC := by rw [← hw1]; exact Blk.new w _ _
  have hb1 : Below w.heap.size w w1 := by rw [← hw1]; exact (Below.refl _ _).alloc (Nat.le_refl _) _
  clear hw1
  have HK := Lib.hid hk1
  clear hk1 hx
  unfold shortS
  go_wp2_with fail
  go_loop [11] (fun i => ∃ j : Nat, j ≤ 7 ∧ i = .int .i64 j ∧ ∀ i, i < j → tL i ≠ c) (fun i => 7 - (intOf i).toNat)
  case atStart => exact ⟨0, by omega, rfl, fun j h => by omega⟩
  case round =>
    obtain ⟨j, hj, rfl, hno⟩ := hrel
    have HN := Lib.hid hno
    clear hno
    by_cases hlt : j < 7
    · have hl := short_letter hlt
      unfold shortS at hl
      by_cases ht : tL j = c
      · have HB := Lib.hid (fun w => HBL.out j w hlt true (decide_eq_true ht.symm))
        have hcl := short_cell HK.out hlt
        obtain ⟨t1, t2, t3, t4⟩ := tL_letR hlt
        have HV : Hid (Ending.returned (.tuple #[.int .i64 (tR j), .int .i64 2, .bool true]) = .returned (roneV (oneJ (s.data.toList.drop k)))) := by
          show _ = _
          rw [HO.out, HE.out (tR j) (by rw [← ht]; exact t1) t2]; rfl
        clear ht HBL t1 t2 t3 HE HU
        go_wp2_with (go_at_call 43; refine (HB.out _).mono ?_; rintro e w' ⟨rfl, rfl⟩)
        go_ret3
        exact ⟨HV.out, hb1⟩
      · have HB := Lib.hid (fun w => HBL.out j w hlt false (decide_eq_false (fun h => ht h.symm)))
        have HT := Lib.hid ht
        clear ht HBL
        go_wp2_with (go_at_call 43; refine (HB.out _).mono ?_; rintro e w' ⟨rfl, rfl⟩)
        go_round
        case rel => exact ⟨j + 1, by omega, by go_num, fun i hi => by rcases Nat.lt_succ_iff_lt_or_eq.1 hi with h | rfl; exact HN.out i h; exact HT.out⟩
        case measure => simp [intOf]; omega
    · obtain rfl : j = 7 := by omega
      clear hlt hj
      by_cases h47 : c = 47
      · have HB := Lib.hid (fun w => HBS.out w true (decide_eq_true h47))
        have HV : Hid (oneJ (s.data.toList.drop k) = some (47, 2)) := by show _ = _; rw [HO.out, HE.out 47 (by rw [h47]; rfl) (by decide)]
        clear h47 HBS HBL HE HU
        go_wp2_with (go_at_call 43; refine (HB.out _).mono ?_; rintro e w' ⟨rfl, rfl⟩)
        go_ret3
        exact ⟨by rw [HV.out]; rfl, hb1⟩
      · have HB := Lib.hid (fun w => HBS.out w false (decide_eq_false h47))
        have HZ := Lib.hid (HU.out (letR_none h47 HN.out))
        clear h47 HBS HBL HE HU HN
        go_wp2_with fail
        refine (HB.out _).mono ?_
        rintro e w' ⟨rfl, rfl⟩
        go_wp2_with fail
        cases hu : unitAt s.data.toList k with
        | none =>
          have HV : Hid (oneJ (s.data.toList.drop k) = none) := by show _ = _; rw [HO.out, HZ.out, hu]
          rw [unitI_none hu] at HQ
          clear hu HZ HQ6
          refine (HQ.out _).mono ?_
          rintro e w2 ⟨rfl, b2⟩
          go_wp2_with fail
          go_ret3
          exact ⟨by rw [HV.out]; rfl, hb1.trans (b2.mono hb1.size)⟩
        | some a =>
          have ha := unitAt_lt hu
          rw [unitI_some hu] at HQ
          rw [hu] at HZ
          dsimp only at HZ
          clear hu
          obtain ⟨A, hA⟩ : ∃ A : Int, (a : Int) = A := ⟨_, rfl⟩
          rw [hA] at HQ
          have g0 : 0 ≤ A := by omega
          have g1 : A / 64 < 1024 := by omega
          by_cases h2 : 55296 ≤ a ∧ a < 56320
          · rw [if_neg (by omega), if_pos h2] at HZ
            have t2 : ((55296 : Int) ≤ A) = True := eq_true (by omega)
            have t3 : (A ≤ 56319) = True := eq_true (by omega)
            have HR := Lib.hid (fun w => rune_to A false w (decide_eq_false (by unfold isRune; omega)))
            cases hu : unitAt s.data.toList (k + 6) with
            | none =>
              have HV : Hid (oneJ (s.data.toList.drop k) = none) := by show _ = _; rw [HO.out, HZ.out, hu]
              rw [unitI_none hu] at HQ6
              clear hu HZ h2 ha hA
              refine (HQ.out _).mono ?_
              rintro e w2 ⟨rfl, b2⟩
              go_wp2_with fail
              refine (HQ6.out _).mono ?_
              rintro e w3 ⟨rfl, b3⟩
              go_wp2_with (go_at_call 79; refine (HR.out _).mono ?_; rintro e w' ⟨rfl, rfl⟩)
              go_ret3
              exact ⟨by rw [HV.out]; rfl, (hb1.trans (b2.mono hb1.size)).trans (b3.mono (Nat.le_trans hb1.size b2.size))⟩
            | some b =>
              have hb := unitAt_lt hu
              rw [unitI_some hu] at HQ6
              rw [hu] at HZ
              dsimp only at HZ
              clear hu
              obtain ⟨B, hB⟩ : ∃ B : Int, (b : Int) = B := ⟨_, rfl⟩
              rw [hB] at HQ6
              have g2 : 0 ≤ B := by omega
              have g3 : B / 64 < 1024 := by omega
              by_cases h5 : 56320 ≤ b ∧ b < 57344
              · have HV : Hid (∀ x : Int, x = 65536 + 1024 * (A - 55296) + B - 56320 → Ending.returned (.tuple #[.int .i64 x, .int .i64 12, .bool true]) = .returned (roneV (oneJ (s.data.toList.drop k)))) := by
                  intro x hx
                  rw [HO.out, HZ.out, if_pos h5]
                  show _ = Ending.returned (.tuple #[.int .i64 ((65536 + (a - 55296) * 1024 + (b - 56320) : Nat) : Int), .int .i64 12, .bool true])
                  rw [show x = ((65536 + (a - 55296) * 1024 + (b - 56320) : Nat) : Int) by omega]
                have t4 : ((56320 : Int) ≤ B) = True := eq_true (by omega)
                have t5 : (B ≤ 57343) = True := eq_true (by omega)
                clear HZ h2 ha hA h5 hb hB
                refine (HQ.out _).mono ?_
                rintro e w2 ⟨rfl, b2⟩
                go_wp2_with fail
                refine (HQ6.out _).mono ?_
                rintro e w3 ⟨rfl, b3⟩
                go_wp2_with fail
                go_ret3
                exact ⟨HV.out _ rfl, (hb1.trans (b2.mono hb1.size)).trans (b3.mono (Nat.le_trans hb1.size b2.size))⟩
              · have HV : Hid (oneJ (s.data.toList.drop k) = none) := by show _ = _; rw [HO.out, HZ.out, if_neg h5]
                have h6 : (((56320 : Int) ≤ B) = False) ∨ (((56320 : Int) ≤ B) = True ∧ (B ≤ 57343) = False) := by
                  by_cases h : 56320 ≤ B
                  · exact .inr ⟨eq_true h, eq_false (by omega)⟩
                  · exact .inl (eq_false h)
                clear HZ h2 ha hA h5 hb hB
                rcases h6 with h6 | ⟨h6, h7⟩
                all_goals
                  refine (HQ.out _).mono ?_
                  rintro e w2 ⟨rfl, b2⟩
                  go_wp2_with fail
                  refine (HQ6.out _).mono ?_
                  rintro e w3 ⟨rfl, b3⟩
                  go_wp2_with (go_at_call 79; refine (HR.out _).mono ?_; rintro e w' ⟨rfl, rfl⟩)
                  go_ret3
                  exact ⟨by rw [HV.out]; rfl, (hb1.trans (b2.mono hb1.size)).trans (b3.mono (Nat.le_trans hb1.size b2.size))⟩
          · have h6 : (((55296 : Int) ≤ A) = False) ∨ (((55296 : Int) ≤ A) = True ∧ (A ≤ 56319) = False) := by
              by_cases h : 55296 ≤ A
              · exact .inr ⟨eq_true h, eq_false (by omega)⟩
              · exact .inl (eq_false h)
            by_cases h1 : 56320 ≤ a ∧ a < 57344
            · have HV : Hid (oneJ (s.data.toList.drop k) = none) := by show _ = _; rw [HO.out, HZ.out, if_pos h1]
              have HR := Lib.hid (fun w => rune_to A false w (decide_eq_false (by unfold isRune; omega)))
              clear HZ h1 h2 ha hA HQ6
              rcases h6 with h6 | ⟨h6, h7⟩
              all_goals
                refine (HQ.out _).mono ?_
                rintro e w2 ⟨rfl, b2⟩
                go_wp2_with (go_at_call 79; refine (HR.out _).mono ?_; rintro e w' ⟨rfl, rfl⟩)
                go_ret3
                exact ⟨by rw [HV.out]; rfl, hb1.trans (b2.mono hb1.size)⟩
            · have HV : Hid (Ending.returned (.tuple #[.int .i64 A, .int .i64 6, .bool true]) = .returned (roneV (oneJ (s.data.toList.drop k)))) := by
                show _ = _; rw [HO.out, HZ.out, if_neg h1, if_neg h2, ← hA]; rfl
              have HR := Lib.hid (fun w => rune_to A true w (decide_eq_true (by unfold isRune; omega)))
              clear HZ h1 h2 ha hA HQ6
              rcases h6 with h6 | ⟨h6, h7⟩
              all_goals
                refine (HQ.out _).mono ?_
                rintro e w2 ⟨rfl, b2⟩
                go_wp2_with (go_at_call 79; refine (HR.out _).mono ?_; rintro e w' ⟨rfl, rfl⟩)
                go_ret3
                exact ⟨HV.out, hb1.trans (b2.mono hb1.size)⟩
set_option maxRecDepth 100000 in
set_option maxHeartbeats 1000000 in
theorem rone_self (s : ByteArray) (k : Nat) (w : World) (hs : s.size ≤ 1000000) (hk : k < s.size) (h92 : bt s.data.toList k ≠ 92) :
    Calls Try.prog 64 #[.string s, .int .i64 k] w fun e w' => e = .returned (roneV (oneJ (s.data.toList.drop k))) ∧ Below w.heap.size w w' := by
  have hx := bt_byte s k hk
  have y0 := bt_lt s.data.toList k
  obtain ⟨r, n, hn, hr, hn1, hn4, hkn, hne, hdd⟩ := next_at hk
  have HN := Lib.hid (fun w => rnext_to s k r n w (by omega) hk hn)
  have HO := Lib.hid (one_next s k r n hk h92 hn)
  have hq : ((bt s.data.toList k : Int) != 92) = true := by simp; omega
  clear hn hne hdd h92
  generalize bt s.data.toList k = c at *
  by_cases hz : r < 32 ∨ r = 34 ∨ (r = 65533 ∧ n = 1)
  · have HV : Hid (oneJ (s.data.toList.drop k) = none) := by show _ = _; rw [HO.out, if_pos hz]
    have h3 : (((r : Int) < 32) = True) ∨ (((r : Int) < 32) = False ∧ ((r : Int) == 34) = true) ∨ (((r : Int) < 32) = False ∧ ((r : Int) == 34) = false ∧ ((r : Int) == 65533) = true ∧ ((n : Int) == 1) = true) := by
      rcases hz with h | h | h
      · exact .inl (eq_true (by omega))
      · exact .inr (.inl ⟨eq_false (by omega), by simp; omega⟩)
      · exact .inr (.inr ⟨eq_false (by omega), by simp; omega, by simp; omega, by simp; omega⟩)
    clear hz HO hr
    rcases h3 with h | ⟨h, g1⟩ | ⟨h, g1, g2, g3⟩
    all_goals
      go_enter Try.func64, Try.ntmps64
      go_wp2_with (go_at_call 70; refine (HN.out _).mono ?_; rintro e w' ⟨rfl, b2⟩)
      go_ret3
      exact ⟨by rw [HV.out]; rfl, b2⟩
  · have HV : Hid (oneJ (s.data.toList.drop k) = some (r, n)) := by show _ = _; rw [HO.out, if_neg hz]
    have h1 : ((r : Int) < 32) = False := eq_false (by omega)
    have h2 : ((r : Int) == 34) = false := by simp; omega
    have h3 : ((r : Int) == 65533) = false ∨ (((r : Int) == 65533) = true ∧ ((n : Int) == 1) = false) := by
      by_cases h : r = 65533
      · exact .inr ⟨by simp; omega, by simp; omega⟩
      · exact .inl (by simp; omega)
    clear hz HO hr
    rcases h3 with h | ⟨h, g1⟩
    all_goals
      go_enter Try.func64, Try.ntmps64
      go_wp2_with (go_at_call 70; refine (HN.out _).mono ?_; rintro e w' ⟨rfl, b2⟩)
      go_ret3
      exact ⟨by rw [HV.out]; rfl, b2⟩
theorem rone_out_1 (s : ByteArray) (k : Int) (w : World) (hk : k < 0) :
    Calls Try.prog 64 #[.string s, .int .i64 k] w fun e w' => e = .returned (roneV none) ∧ w = w' := by
  go_enter Try.func64, Try.ntmps64
  go_wp2
  go_ret3
  exact ⟨rfl, rfl⟩
theorem rone_out_2 (s : ByteArray) (k : Int) (w : World) (h0 : 0 ≤ k) (hk : (s.size : Int) ≤ k) :
    Calls Try.prog 64 #[.string s, .int .i64 k] w fun e w' => e = .returned (roneV none) ∧ w = w' := by
  go_enter Try.func64, Try.ntmps64
  go_wp2
  go_ret3
  exact ⟨rfl, rfl⟩
theorem rone_any (s : ByteArray) (k : Int) (w : World) (hs : s.size ≤ 1000000) :
    Calls Try.prog 64 #[.string s, .int .i64 k] w fun e w' => e = .returned (roneV (oneAt s.data.toList k)) ∧ Below w.heap.size w w' := by
  unfold oneAt
  by_cases h0 : k < 0
  · rw [if_pos h0]; exact (rone_out_1 s k w h0).mono fun e w' ⟨a, b⟩ => ⟨a, by rw [← b]; exact Below.refl _ _⟩
  rw [if_neg h0]
  obtain ⟨k, rfl⟩ := Int.eq_ofNat_of_zero_le (by omega : 0 ≤ k)
  rw [Int.toNat_natCast]
  by_cases hk : k < s.size
  · by_cases h : bt s.data.toList k = 92
    · exact rone_esc s k w hs hk h
    · exact rone_self s k w hs hk h
  · have hn : s.data.toList.drop k = [] := List.drop_eq_nil_of_le (by rw [← sz_len]; omega)
    rw [hn]
    exact (rone_out_2 s k w (by omega) (by omega)).mono fun e w' ⟨a, b⟩ => ⟨a, by rw [← b]; exact Below.refl _ _⟩
end Go.Proofs.Ytjnmcadfaombjaa
