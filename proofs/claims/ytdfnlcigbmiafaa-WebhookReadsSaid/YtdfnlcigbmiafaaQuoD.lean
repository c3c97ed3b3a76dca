/- Walks: the program's escape and One. -/
import Derived.Test.YtdfnlcigbmiafaaQW
import Derived.Laws.RangeAny
namespace Go.Proofs.Ytdfnlcigbmiafaa
open Go.RowKit
set_option linter.unusedVariables false
set_option linter.unusedSimpArgs false
set_option maxRecDepth 100000 in
set_option maxHeartbeats 2000000 in
theorem escape_in (s : ByteArray) (k : Nat) (w : World) (hs : s.size ≤ 1000000) (hk1 : k + 1 < s.size) :
    Calls Try.prog 96 #[.string s, .int .i64 k] w fun e w' => e = .returned (oneV (escJ (s.data.toList.drop k))) ∧ Below w.heap.size w w' := by
  have hx := bt_byte s (k + 1) hk1
  have y1 := bt_lt s.data.toList (k + 1)
  have HE := Lib.hid (fun r => escJ_letter (l := s.data.toList) (k := k) (r := r))
  have HU := Lib.hid (escJ_unit (l := s.data.toList) (k := k))
  by_cases h47 : bt s.data.toList (k + 1) = 47
  · rw [h47] at hx HE
    have HV := Lib.hid (HE.out 47 (by decide) (by decide))
    clear HE HU h47 y1
    go_enter Try.func96, Try.ntmps96
    go_wp2
    go_ret3
    exact ⟨by rw [HV.out]; rfl, Below.refl _ _⟩
  · have hq : ((bt s.data.toList (k + 1) : Int) == 47) = false := by simp; omega
    generalize bt s.data.toList (k + 1) = c at *
    have H47 := Lib.hid h47
    clear h47
    go_enter Try.func96, Try.ntmps96
    go_wp2_with fail
    go_loopw [8] (fun r wr => ∃ j m : Nat, j ≤ 7 ∧ wr = (w.drewN m).iter shortR j ∧ ∀ i, i < j → tL i ≠ c) (fun _ wr => 7 - wr.iterPos w.heap.size)
    case atStart => exact ⟨0, 0, by omega, rfl, fun i h => by omega⟩
    case round =>
      obtain ⟨j, m, hj, rfl, hno⟩ := hrel
      have HN := Lib.hid hno
      clear hno
      by_cases hlt : j < 7
      · have hnx : ∀ ty, (Instr.next (.pointer (some ⟨w.heap.size, 0, none⟩)) true ty).run Try.prog ((w.drewN m).iter shortR j) = .ok (.tuple #[.bool true, .int .i64 j, .int .i32 (tR j)]) ((w.drewN m).iter shortR (j + 1)) := fun ty => next_short (w.drewN m) j hlt ty
        obtain ⟨t1, t2, t3, t4⟩ := tL_letR hlt
        have HL := Lib.hid (fun w => letter_any (tR j) w (by omega))
        rw [t3] at HL
        have T := Lib.hid (And.intro t1 t2)
        go_wp2_with fail
        have e1 : IntKind.i64.wrap ((k : Int) + 1) = (k : Int) + 1 := IntWalk.i64_in _ (by omega)
        have e2 : 0 ≤ (k : Int) + 1 := by omega
        have e3 : ((k : Int) + 1).toNat = k + 1 := by omega
        clear hnx
        by_cases ht : tL j = c
        · have hb : (((tL j : Nat) : Int) == (c : Int)) = true := by simp [ht]
          have HV := Lib.hid (HE.out (tR j) (by rw [← ht]; exact T.out.1) T.out.2)
          clear ht
          go_quiet ((go_at_call 32; exact quiet_left (HL.out _)))
          clear e1 e2 e3
          go_wp2_with fail
          go_ret3
          refine ⟨by rw [HV.out]; rfl, ?_⟩
          exact below_drewN (below_iter w _ _ _) _
        · have hb : (((tL j : Nat) : Int) == (c : Int)) = false := by simp; omega
          have HT := Lib.hid ht
          clear ht
          go_quiet ((go_at_call 32; exact quiet_left (HL.out _)))
          clear e1 e2 e3
          go_wp2_with fail
          go_roundw
          case rel => exact ⟨j + 1, m + nq, by omega, by rw [iter_drewN, World.drewN_drewN], fun i hi => by rcases Nat.lt_succ_iff_lt_or_eq.1 hi with h | rfl; exact HN.out i h; exact HT.out⟩
          case measure =>
            have p1 : (((w.drewN m).iter shortR (j + 1)).drewN nq).iterPos w.heap.size = j + 1 := World.iterPos_iter (w.drewN m) shortR (j + 1)
            have p2 : ((w.drewN m).iter shortR j).iterPos w.heap.size = j := World.iterPos_iter (w.drewN m) shortR j
            rw [p1, p2]; omega
      · obtain rfl : j = 7 := by omega
        have hnx : ∀ ty, (Instr.next (.pointer (some ⟨w.heap.size, 0, none⟩)) true ty).run Try.prog ((w.drewN m).iter shortR 7) = .ok (.tuple #[.bool false]) ((w.drewN m).iter shortR 7) := fun ty => next_short_end (w.drewN m) ty
        have HZ := Lib.hid (HU.out (letR_none H47.out HN.out))
        have HB := Lib.hid (below_iter w m shortR 7)
        clear hq hx y1 HE HU HN H47
        go_wp2_with fail
        clear hnx hj hlt
        cases hu : unitAt s.data.toList k with
        | none =>
          have HV : Hid (escJ (s.data.toList.drop k) = none) := by show _ = _; rw [HZ.out, hu]
          have HC := Lib.hid (fun w => unit_none s k w hs (by omega) hu)
          generalize unitV s.data.toList k = x at *
          clear hu HZ
          refine (HC.out _).mono ?_
          rintro e w' ⟨rfl, rfl⟩
          go_wp2_with fail
          go_ret3
          exact ⟨by rw [HV.out]; rfl, HB.out⟩
        | some a =>
          have ha := unitAt_lt hu
          have HC := Lib.hid (fun w => unit_some s k a w hs (by omega) hu)
          rw [hu] at HZ
          dsimp only at HZ
          clear hu
          obtain ⟨A, hA⟩ : ∃ A : Int, (a : Int) = A := ⟨_, rfl⟩
          rw [hA] at HC
          have g0 : 0 ≤ A := by omega
          have g1 : A / 64 < 1024 := by omega
          by_cases h1 : 56320 ≤ a ∧ a < 57344
          · have HV : Hid (escJ (s.data.toList.drop k) = none) := by show _ = _; rw [HZ.out, if_pos h1]
            have t1 : ((56320 : Int) ≤ A) = True := eq_true (by omega)
            have t2 : (A < 57344) = True := eq_true (by omega)
            clear HZ h1 ha hA
            refine (HC.out _).mono ?_
            rintro e w' ⟨rfl, rfl⟩
            go_wp2_with fail
            go_ret3
            exact ⟨by rw [HV.out]; rfl, HB.out⟩
          · by_cases h2 : 55296 ≤ a ∧ a < 56320
            · rw [if_neg h1, if_pos h2] at HZ
              have t1 : ((56320 : Int) ≤ A) = False := eq_false (by omega)
              have t2 : ((55296 : Int) ≤ A) = True := eq_true (by omega)
              have t3 : (A < 56320) = True := eq_true (by omega)
              cases hu : unitAt s.data.toList (k + 6) with
              | none =>
                have HV : Hid (escJ (s.data.toList.drop k) = none) := by show _ = _; rw [HZ.out, hu]
                have HD := Lib.hid (fun w => unit_none s (k + 6) w hs (by omega) hu)
                rw [show ((k + 6 : Nat) : Int) = (k : Int) + 6 by omega] at HD
                generalize unitV s.data.toList (k + 6) = x at *
                clear hu HZ h1 h2 ha hA
                refine (HC.out _).mono ?_
                rintro e w' ⟨rfl, rfl⟩
                go_wp2_with fail
                refine (HD.out _).mono ?_
                rintro e w' ⟨rfl, rfl⟩
                go_wp2_with fail
                go_ret3
                exact ⟨by rw [HV.out]; rfl, HB.out⟩
              | some b =>
                have hb := unitAt_lt hu
                have HD := Lib.hid (fun w => unit_some s (k + 6) b w hs (by omega) hu)
                rw [show ((k + 6 : Nat) : Int) = (k : Int) + 6 by omega] at HD
                rw [hu] at HZ
                dsimp only at HZ
                clear hu
                obtain ⟨B, hB⟩ : ∃ B : Int, (b : Int) = B := ⟨_, rfl⟩
                rw [hB] at HD
                have g2 : 0 ≤ B := by omega
                have g3 : B / 64 < 1024 := by omega
                by_cases h5 : 56320 ≤ b ∧ b < 57344
                · have HV : Hid (∀ x : Int, x = 65536 + (A - 55296) * 1024 + B - 56320 → Ending.returned (.tuple #[.int .i32 x, .int .i64 12, .bool true]) = .returned (oneV (escJ (s.data.toList.drop k)))) := by
                    intro x hx
                    rw [HZ.out, if_pos h5]
                    show _ = Ending.returned (.tuple #[.int .i32 ((65536 + (a - 55296) * 1024 + (b - 56320) : Nat) : Int), .int .i64 12, .bool true])
                    rw [show x = ((65536 + (a - 55296) * 1024 + (b - 56320) : Nat) : Int) by omega]
                  have t4 : (B < 56320) = False := eq_false (by omega)
                  have t5 : ((57344 : Int) ≤ B) = False := eq_false (by omega)
                  clear HZ h1 h2 ha hA h5 hb hB
                  refine (HC.out _).mono ?_
                  rintro e w' ⟨rfl, rfl⟩
                  go_wp2_with fail
                  refine (HD.out _).mono ?_
                  rintro e w' ⟨rfl, rfl⟩
                  go_wp2_with fail
                  go_ret3
                  exact ⟨HV.out _ rfl, HB.out⟩
                · have HV : Hid (escJ (s.data.toList.drop k) = none) := by show _ = _; rw [HZ.out, if_neg h5]
                  have h6 : ((B < 56320) = True) ∨ ((B < 56320) = False ∧ ((57344 : Int) ≤ B) = True) := by
                    by_cases h : B < 56320
                    · exact .inl (eq_true h)
                    · exact .inr ⟨eq_false h, eq_true (by omega)⟩
                  clear HZ h1 h2 ha hA h5 hb hB
                  rcases h6 with h6 | ⟨h6, h7⟩
                  all_goals
                    refine (HC.out _).mono ?_
                    rintro e w' ⟨rfl, rfl⟩
                    go_wp2_with fail
                    refine (HD.out _).mono ?_
                    rintro e w' ⟨rfl, rfl⟩
                    go_wp2_with fail
                    go_ret3
                    exact ⟨by rw [HV.out]; rfl, HB.out⟩
            · have HV : Hid (Ending.returned (.tuple #[.int .i32 A, .int .i64 6, .bool true]) = .returned (oneV (escJ (s.data.toList.drop k)))) := by
                show _ = _; rw [HZ.out, if_neg h1, if_neg h2, ← hA]; rfl
              have h6 : (((56320 : Int) ≤ A) = False ∧ ((55296 : Int) ≤ A) = False) ∨ (((56320 : Int) ≤ A) = True ∧ (A < 57344) = False ∧ ((55296 : Int) ≤ A) = True ∧ (A < 56320) = False) := by
                by_cases h : 55296 ≤ A
                · exact .inr ⟨eq_true (by omega), eq_false (by omega), eq_true h, eq_false (by omega)⟩
                · exact .inl ⟨eq_false (by omega), eq_false h⟩
              clear HZ h1 h2 ha hA
              rcases h6 with ⟨h6, h7⟩ | ⟨h6, h7, h8, h9⟩
              all_goals
                refine (HC.out _).mono ?_
                rintro e w' ⟨rfl, rfl⟩
                go_wp2_with fail
                go_ret3
                exact ⟨HV.out, HB.out⟩
theorem escape_any (s : ByteArray) (k : Nat) (w : World) (hs : s.size ≤ 1000000) (hk : k ≤ s.size) :
    Calls Try.prog 96 #[.string s, .int .i64 k] w fun e w' => e = .returned (oneV (escJ (s.data.toList.drop k))) ∧ Below w.heap.size w w' := by
  by_cases h : k + 1 < s.size
  · exact escape_in s k w hs h
  · exact escape_end s k w hs hk (by omega)
theorem one_esc (s : ByteArray) (k : Nat) (hk : k < s.size) (h : bt s.data.toList k = 92) : oneJ (s.data.toList.drop k) = escJ (s.data.toList.drop k) := by
  unfold oneJ
  have := bt_drop s.data.toList k 0
  rw [if_neg (drop_ne (by rw [← sz_len]; exact hk)), this, Nat.add_zero, if_pos h]
theorem one_next (s : ByteArray) (k r n : Nat) (hk : k < s.size) (h : bt s.data.toList k ≠ 92) (hn : next (s.data.toList.drop k) = (r, n)) :
    oneJ (s.data.toList.drop k) = if r < 32 ∨ r = 34 ∨ (r = 65533 ∧ n = 1) then none else some (r, n) := by
  unfold oneJ
  have := bt_drop s.data.toList k 0
  rw [if_neg (drop_ne (by rw [← sz_len]; exact hk)), this, Nat.add_zero, if_neg h, hn]
set_option maxRecDepth 100000 in
set_option maxHeartbeats 1000000 in
theorem one_in (s : ByteArray) (k : Nat) (w : World) (hs : s.size ≤ 1000000) (hk : k < s.size) :
    Calls Try.prog 86 #[.string s, .int .i64 k] w fun e w' => e = .returned (oneV (oneJ (s.data.toList.drop k))) ∧ Below w.heap.size w w' := by
  have hx := bt_byte s k hk
  have y0 := bt_lt s.data.toList k
  by_cases h92 : bt s.data.toList k = 92
  · have HO := Lib.hid (one_esc s k hk h92)
    have HE := Lib.hid (fun w => escape_any s k w hs (by omega))
    rw [h92] at hx
    obtain ⟨r, n, b, hv⟩ : ∃ (r n : Int) (b : Bool), oneV (escJ (s.data.toList.drop k)) = .tuple #[.int .i32 r, .int .i64 n, .bool b] := by
      cases escJ (s.data.toList.drop k) <;> exact ⟨_, _, _, rfl⟩
    have HV : Hid (oneV (oneJ (s.data.toList.drop k)) = .tuple #[.int .i32 r, .int .i64 n, .bool b]) := by show _ = _; rw [HO.out, hv]
    rw [hv] at HE
    clear hv HO h92 y0
    go_enter Try.func86, Try.ntmps86
    go_wp2_with (go_at_call 96; refine (HE.out _).mono ?_; rintro e w' ⟨rfl, hb⟩)
    go_ret3
    exact ⟨by rw [HV.out]; rfl, hb⟩
  · obtain ⟨r, n, hn, hr, hn1, hn4, hkn, hne, hdd⟩ := next_at hk
    have HN := Lib.hid (fun w => next_to s k r n w (by omega) hn)
    have HO := Lib.hid (one_next s k r n hk h92 hn)
    have hq : ((bt s.data.toList k : Int) == 92) = false := by simp; omega
    clear hn hne hdd h92
    generalize bt s.data.toList k = c at *
    by_cases hz : r < 32 ∨ r = 34 ∨ (r = 65533 ∧ n = 1)
    · have HV : Hid (oneJ (s.data.toList.drop k) = none) := by show _ = _; rw [HO.out, if_pos hz]
      have h3 : (((r : Int) < 32) = True) ∨ (((r : Int) < 32) = False ∧ ((r : Int) == 34) = true) ∨ (((r : Int) < 32) = False ∧ ((r : Int) == 34) = false ∧ ((r : Int) == 65533) = true ∧ ((n : Int) == 1) = true) := by
        rcases hz with h | h | h
        · exact .inl (eq_true (by omega))
        · exact .inr (.inl ⟨eq_false (by omega), by simp; omega⟩)
        · exact .inr (.inr ⟨eq_false (by omega), by simp; omega, by simp; omega, by simp; omega⟩)
      clear hz HO hr
      rcases h3 with h | ⟨h, g1⟩ | ⟨h, g1, g2, g3⟩
      all_goals
        go_enter Try.func86, Try.ntmps86
        go_wp2_with (go_at_call 62; refine (HN.out _).mono ?_; rintro e w' ⟨rfl, rfl⟩)
        go_ret3
        exact ⟨by rw [HV.out]; rfl, Below.refl _ _⟩
    · have HV : Hid (oneJ (s.data.toList.drop k) = some (r, n)) := by show _ = _; rw [HO.out, if_neg hz]
      have h1 : ((r : Int) < 32) = False := eq_false (by omega)
      have h2 : ((r : Int) == 34) = false := by simp; omega
      have h3 : ((r : Int) == 65533) = false ∨ (((r : Int) == 65533) = true ∧ ((n : Int) == 1) = false) := by
        by_cases h : r = 65533
        · exact .inr ⟨by simp; omega, by simp; omega⟩
        · exact .inl (by simp; omega)
      clear hz HO hr
      rcases h3 with h | ⟨h, g1⟩
      all_goals
        go_enter Try.func86, Try.ntmps86
        go_wp2_with (go_at_call 62; refine (HN.out _).mono ?_; rintro e w' ⟨rfl, rfl⟩)
        go_ret3
        exact ⟨by rw [HV.out]; rfl, Below.refl _ _⟩
theorem one_out_1 (s : ByteArray) (k : Int) (w : World) (hk : k < 0) :
    Calls Try.prog 86 #[.string s, .int .i64 k] w fun e w' => e = .returned (oneV none) ∧ w = w' := by
  go_enter Try.func86, Try.ntmps86
  go_wp2
  go_ret3
  exact ⟨rfl, rfl⟩
theorem one_out_2 (s : ByteArray) (k : Int) (w : World) (h0 : 0 ≤ k) (hk : (s.size : Int) ≤ k) :
    Calls Try.prog 86 #[.string s, .int .i64 k] w fun e w' => e = .returned (oneV none) ∧ w = w' := by
  go_enter Try.func86, Try.ntmps86
  go_wp2
  go_ret3
  exact ⟨rfl, rfl⟩
/-- One, at any place of any text. -/
theorem one_any (s : ByteArray) (k : Int) (w : World) (hs : s.size ≤ 1000000) :
    Calls Try.prog 86 #[.string s, .int .i64 k] w fun e w' => e = .returned (oneV (oneAt s.data.toList k)) ∧ Below w.heap.size w w' := by
  unfold oneAt
  by_cases h0 : k < 0
  · rw [if_pos h0]; exact (one_out_1 s k w h0).mono fun e w' ⟨a, b⟩ => ⟨a, by rw [← b]; exact Below.refl _ _⟩
  rw [if_neg h0]
  obtain ⟨k, rfl⟩ := Int.eq_ofNat_of_zero_le (by omega : 0 ≤ k)
  rw [Int.toNat_natCast]
  by_cases hk : k < s.size
  · exact one_in s k w hs hk
  · have hn : s.data.toList.drop k = [] := List.drop_eq_nil_of_le (by rw [← sz_len]; omega)
    rw [hn]
    exact (one_out_2 s k w (by omega) (by omega)).mono fun e w' ⟨a, b⟩ => ⟨a, by rw [← b]; exact Below.refl _ _⟩
end Go.Proofs.Ytdfnlcigbmiafaa
