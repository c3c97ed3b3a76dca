/- Walks: the reference's Esc. -/
import Derived.Test.YtmfldffbafamnaaRfC
import Derived.Test.YtmfldffbafamnaaCjD
namespace Go.Proofs.Ytmfldffbafamnaa
open Go.RowKit
set_option linter.unusedVariables false
set_option linter.unusedSimpArgs false
def okB (s : List UInt8) (i : Nat) : Bool := if i = 6 then bt s 6 == 92 else if i = 7 then bt s 7 == 117 else hexB (bt s i)
def allB (s : List UInt8) (k : Nat) : Bool := (List.range' k (s.length - k)).all (okB s)
theorem allB_step {s : List UInt8} {k : Nat} (h : k < s.length) : allB s k = (okB s k && allB s (k + 1)) := by
  unfold allB
  have e : s.length - k = (s.length - (k + 1)) + 1 := by omega
  rw [e, List.range'_succ, List.all_cons]
theorem allB_end {s : List UInt8} {k : Nat} (h : s.length ≤ k) : allB s k = true := by
  unfold allB
  have e : s.length - k = 0 := by omega
  rw [e]; rfl
def hiB (c : Nat) : Bool := c == 56 || c == 57 || c == 97 || c == 98 || c == 65 || c == 66
def escHigh (s : List UInt8) : Bool := halfB s && decide (3 < s.length) && hiB (bt s 3)
def escBad1 (s : List UInt8) : Bool := halfB s && decide (3 < s.length) && cfB (bt s 3)
def escBad2 (s : List UInt8) : Bool := (decide (6 < s.length) && !escHigh s) || (decide (8 < s.length) && !dB (bt s 8)) || (decide (9 < s.length) && !cfB (bt s 9))
/-- Is a text an escape's beginning, and is it whole? -/
def escR (s : List UInt8) : Bool × Bool :=
  if s.length = 1 then (true, false)
  else if s.length = 2 ∧ oneS wl (bt s 1) = true then (true, true)
  else if bt s 1 ≠ 117 ∨ 12 < s.length then (false, false)
  else if allB s 2 = false then (false, false)
  else if escBad1 s = true then (false, false)
  else if escBad2 s = true then (false, false)
  else (true, (s.length == 6 && !escHigh s) || s.length == 12)
theorem oneD {c : Nat} (hc : c < 256) : oneS [100, 68] c = dB c := by
  have : ∀ c : Fin 256, oneS [100, 68] c.val = dB c.val := by decide +kernel
  exact this ⟨c, hc⟩
theorem oneHi {c : Nat} (hc : c < 256) : oneS [56, 57, 97, 98, 65, 66] c = hiB c := by
  have : ∀ c : Fin 256, oneS [56, 57, 97, 98, 65, 66] c.val = hiB c.val := by decide +kernel
  exact this ⟨c, hc⟩
theorem oneCf {c : Nat} (hc : c < 256) : oneS [99, 100, 101, 102, 67, 68, 69, 70] c = cfB c := by
  have : ∀ c : Fin 256, oneS [99, 100, 101, 102, 67, 68, 69, 70] c.val = cfB c.val := by decide +kernel
  exact this ⟨c, hc⟩
set_option maxRecDepth 100000 in
set_option maxHeartbeats 4000000 in
theorem esc_any (l : List UInt8) (w : World) (hl : l.length ≤ 60000) (h0 : 0 < l.length) :
    Calls Try.prog 42 #[.string (strOf l)] w fun e w' => e = .returned (.tuple #[.bool (escR l).1, .bool (escR l).2]) ∧ w = w' := by
  have hz := strOf_size l
  go_enter Try.func42, Try.ntmps42
  by_cases h1 : l.length = 1
  · have K : Hid (escR l = (true, false)) := by show _ = _; unfold escR; rw [if_pos h1]
    rw [h1] at hz
    go_wp2_with fail
    go_ret2
    exact ⟨by rw [K.out]; rfl, rfl⟩
  have K1 : Hid (escR l = if l.length = 2 ∧ oneS wl (bt l 1) = true then (true, true)
    else if bt l 1 ≠ 117 ∨ 12 < l.length then (false, false)
    else if allB l 2 = false then (false, false)
    else if escBad1 l = true then (false, false)
    else if escBad2 l = true then (false, false)
    else (true, (l.length == 6 && !escHigh l) || l.length == 12)) := by show _ = _; unfold escR; rw [if_neg h1]
  have s1 : 1 < (strOf l).size := by omega
  have hb1 := strOf_byte l 1 s1
  have hb1l := bt_lt l 1
  have q1 : ((l.length : Int) == 1) = false := ne_k (by omega)
  have HO1 := Lib.hid (fun w => one_to wl (bt l 1) (oneS wl (bt l 1)) w hb1l (by decide) rfl)
  obtain ⟨d, hd⟩ : ∃ d, d = decide (l.length = 2 ∧ oneS wl (bt l 1) = true) := ⟨_, rfl⟩
  have HD := Lib.hid hd
  clear hd
  go_upto_region 3 with fail
  go_cut [17] (fun b wx => b = .bool d ∧ wx = w)
  case first =>
    by_cases h2 : l.length = 2
    · have q2 : ((l.length : Int) == 2) = true := eq_k (by omega)
      have K : Hid (d = oneS wl (bt l 1)) := by show _ = _; rw [HD.out]; cases oneS wl (bt l 1) <;> simp [h2]
      clear h2 h1
      go_wp2_with fail
      refine (HO1.out _).mono ?_
      rintro e w' ⟨rfl, rfl⟩
      go_wp2_with fail
      go_meet
      exact ⟨by rw [K.out], rfl⟩
    · have q2 : ((l.length : Int) == 2) = false := ne_k (by omega)
      have K : Hid (d = false) := by show _ = _; rw [HD.out]; exact decide_eq_false (fun h => h2 h.1)
      clear h2 h1
      go_wp2_with fail
      go_meet
      exact ⟨by rw [K.out], rfl⟩
  case rest =>
  obtain ⟨rfl, rfl⟩ := hcut
  clear HO1
  by_cases h2 : l.length = 2 ∧ oneS wl (bt l 1) = true
  · obtain rfl : d = true := by rw [HD.out]; exact decide_eq_true h2
    have K : Hid (escR l = (true, true)) := by show _ = _; rw [K1.out, if_pos h2]
    clear h2 h1
    go_wp2_with fail
    go_ret2
    exact ⟨by rw [K.out]; rfl, rfl⟩
  obtain rfl : d = false := by rw [HD.out]; exact decide_eq_false h2
  have K2 : Hid (escR l = if bt l 1 ≠ 117 ∨ 12 < l.length then (false, false)
    else if allB l 2 = false then (false, false)
    else if escBad1 l = true then (false, false)
    else if escBad2 l = true then (false, false)
    else (true, (l.length == 6 && !escHigh l) || l.length == 12)) := by show _ = _; rw [K1.out, if_neg h2]
  clear K1 HD h2
  by_cases h3 : bt l 1 ≠ 117
  · have q : ((bt l 1 : Int) != 117) = true := by simp only [bne_iff_ne, ne_eq]; omega
    have K : Hid (escR l = (false, false)) := by show _ = _; rw [K2.out, if_pos (Or.inl h3)]
    clear h3 h1
    go_wp2_with fail
    go_ret2
    exact ⟨by rw [K.out]; rfl, rfl⟩
  by_cases h4 : 12 < l.length
  · have q : ((bt l 1 : Int) != 117) = false := by simp only [bne_eq_false_iff_eq]; omega
    have K : Hid (escR l = (false, false)) := by show _ = _; rw [K2.out, if_pos (Or.inr h4)]
    clear h3 h1
    go_wp2_with fail
    go_ret2
    exact ⟨by rw [K.out]; rfl, rfl⟩
  have K3 : Hid (escR l = if allB l 2 = false then (false, false)
    else if escBad1 l = true then (false, false)
    else if escBad2 l = true then (false, false)
    else (true, (l.length == 6 && !escHigh l) || l.length == 12)) := by show _ = _; rw [K2.out, if_neg (by omega)]
  have q : ((bt l 1 : Int) != 117) = false := by simp only [bne_eq_false_iff_eq]; omega
  have h12 : l.length ≤ 12 := by omega
  have h2l : 2 ≤ l.length := by omega
  clear K2 h3 h4 h1 q1
  go_wp2_with fail
  clear q hb1 hb1l
  go_loop [4] (fun z => ∃ k : Nat, z = .int .i64 k ∧ k ≤ l.length ∧ 2 ≤ k ∧ allB l 2 = allB l k) (fun z => l.length - (intOf z).toNat)
  case atStart => exact ⟨2, rfl, h2l, Nat.le_refl _, rfl⟩
  case round =>
    obtain ⟨k, rfl, hk, hk2, hg⟩ := hrel
    by_cases hlt : k < l.length
    · rw [allB_step hlt] at hg
      have hb := strOf_byte l k (by omega)
      have hbl := bt_lt l k
      cases hok : okB l k
      · have K : Hid (escR l = (false, false)) := by show _ = _; rw [K3.out, hg, hok]; rfl
        clear hg
        by_cases h6 : k = 6
        · subst h6
          have hx : ((bt l 6 : Int) != 92) = true := by unfold okB at hok; simp only [if_pos, beq_eq_false_iff_ne, ne_eq] at hok; simp only [bne_iff_ne, ne_eq]; omega
          clear hok
          go_wp2_with fail
          go_ret2
          exact ⟨by rw [K.out]; rfl, rfl⟩
        · have q6 : ((k : Int) == 6) = false := ne_k (by omega)
          have n6 : ((k : Int) != 6) = true := by simp only [bne_iff_ne, ne_eq]; omega
          by_cases h7 : k = 7
          · subst h7
            have hx : ((bt l 7 : Int) != 117) = true := by unfold okB at hok; simp only [if_pos, beq_eq_false_iff_ne, ne_eq, if_neg h6] at hok; simp only [bne_iff_ne, ne_eq]; omega
            clear hok h6
            go_wp2_with fail
            go_ret2
            exact ⟨by rw [K.out]; rfl, rfl⟩
          · have q7 : ((k : Int) == 7) = false := ne_k (by omega)
            have n7 : ((k : Int) != 7) = true := by simp only [bne_iff_ne, ne_eq]; omega
            have HX := Lib.hid (fun w => rhex_any (bt l k) w hbl)
            have hh : hexB (bt l k) = false := by unfold okB at hok; rwa [if_neg h6, if_neg h7] at hok
            rw [hh] at HX
            clear hok h6 h7 hh
            go_wp2_with fail
            refine (HX.out _).mono ?_
            rintro e w' ⟨rfl, rfl⟩
            go_wp2_with fail
            go_ret2
            exact ⟨by rw [K.out]; rfl, rfl⟩
      · have K : Hid (allB l 2 = allB l (k + 1)) := by show _ = _; rw [hg, hok]; rfl
        clear hg
        by_cases h6 : k = 6
        · subst h6
          have hx : ((bt l 6 : Int) != 92) = false := by unfold okB at hok; simp only [if_pos, beq_iff_eq] at hok; simp only [bne_eq_false_iff_eq]; omega
          clear hok
          go_wp2_with fail
          go_round
          case rel => exact ⟨7, by go_num, hlt, by omega, K.out⟩
          case measure => simp [intOf]; omega
        · have q6 : ((k : Int) == 6) = false := ne_k (by omega)
          have n6 : ((k : Int) != 6) = true := by simp only [bne_iff_ne, ne_eq]; omega
          by_cases h7 : k = 7
          · subst h7
            have hx : ((bt l 7 : Int) != 117) = false := by unfold okB at hok; simp only [if_pos, beq_iff_eq, if_neg h6] at hok; simp only [bne_eq_false_iff_eq]; omega
            clear hok h6
            go_wp2_with fail
            go_round
            case rel => exact ⟨8, by go_num, hlt, by omega, K.out⟩
            case measure => simp [intOf]; omega
          · have q7 : ((k : Int) == 7) = false := ne_k (by omega)
            have n7 : ((k : Int) != 7) = true := by simp only [bne_iff_ne, ne_eq]; omega
            have HX := Lib.hid (fun w => rhex_any (bt l k) w hbl)
            have hh : hexB (bt l k) = true := by unfold okB at hok; rwa [if_neg h6, if_neg h7] at hok
            rw [hh] at HX
            clear hok h6 h7 hh
            go_wp2_with fail
            refine (HX.out _).mono ?_
            rintro e w' ⟨rfl, rfl⟩
            go_wp2_with fail
            go_round
            case rel => exact ⟨k + 1, by go_num, hlt, by omega, K.out⟩
            case measure => simp [intOf]; omega
    · have K4 : Hid (escR l = if escBad1 l = true then (false, false)
        else if escBad2 l = true then (false, false)
        else (true, (l.length == 6 && !escHigh l) || l.length == 12)) := by show _ = _; rw [K3.out, hg, allB_end (by omega)]; rfl
      obtain rfl : k = l.length := by omega
      clear hg K3 hlt hk
      have lt256 := bt_lt l
      obtain ⟨hf, hhf⟩ : ∃ x, x = halfB l := ⟨_, rfl⟩
      have HHF := Lib.hid hhf
      clear hhf
      go_upto_region 12 with fail
      go_cut [5] (fun b wx => b = .bool hf ∧ wx = wc)
      case first =>
        by_cases c2 : 2 < l.length
        · have hb := strOf_byte l 2 (by omega)
          have HO := Lib.hid (fun w => one_to [100, 68] (bt l 2) hf w (lt256 2) (by decide) (by rw [oneD (lt256 2), HHF.out]; unfold halfB; rw [decide_eq_true (by omega : 3 ≤ l.length)]; rfl))
          go_wp2_with fail
          refine (HO.out _).mono ?_
          rintro e w' ⟨rfl, rfl⟩
          go_wp2_with fail
          go_meet
          exact ⟨rfl, rfl⟩
        · have K : Hid (hf = false) := by show _ = _; rw [HHF.out]; unfold halfB; rw [decide_eq_false (by omega : ¬ 3 ≤ l.length)]; rfl
          go_wp2_with fail
          go_meet
          exact ⟨by rw [K.out], rfl⟩
      case rest =>
      obtain ⟨rfl, rfl⟩ := hcut
      obtain ⟨hg, hhg⟩ : ∃ x, x = escHigh l := ⟨_, rfl⟩
      have HHG := Lib.hid hhg
      clear hhg
      go_upto_region 13 with fail
      go_cut [6] (fun b wx => b = .bool hg ∧ wx = wc)
      case first =>
        cases hf
        · have K : Hid (hg = false) := by show _ = _; rw [HHG.out]; unfold escHigh; rw [← HHF.out]; rfl
          go_wp2_with fail
          go_meet
          exact ⟨by rw [K.out], rfl⟩
        · by_cases c3 : 3 < l.length
          · have hb := strOf_byte l 3 (by omega)
            have HO := Lib.hid (fun w => one_to [56, 57, 97, 98, 65, 66] (bt l 3) hg w (lt256 3) (by decide) (by rw [oneHi (lt256 3), HHG.out]; unfold escHigh; rw [← HHF.out, decide_eq_true c3]; rfl))
            go_wp2_with fail
            refine (HO.out _).mono ?_
            rintro e w' ⟨rfl, rfl⟩
            go_wp2_with fail
            go_meet
            exact ⟨rfl, rfl⟩
          · have K : Hid (hg = false) := by show _ = _; rw [HHG.out]; unfold escHigh; rw [← HHF.out, decide_eq_false c3]; rfl
            go_wp2_with fail
            go_meet
            exact ⟨by rw [K.out], rfl⟩
      case rest =>
      obtain ⟨rfl, rfl⟩ := hcut
      obtain ⟨b1, hb1⟩ : ∃ x, x = escBad1 l := ⟨_, rfl⟩
      have HB1 := Lib.hid hb1
      clear hb1
      go_upto_region 14 with fail
      go_cut [94] (fun b wx => b = .bool b1 ∧ wx = wc)
      case first =>
        cases hf
        · have K : Hid (b1 = false) := by show _ = _; rw [HB1.out]; unfold escBad1; rw [← HHF.out]; rfl
          go_wp2_with fail
          go_meet
          exact ⟨by rw [K.out], rfl⟩
        · by_cases c3 : 3 < l.length
          · have hb := strOf_byte l 3 (by omega)
            have HO := Lib.hid (fun w => one_to [99, 100, 101, 102, 67, 68, 69, 70] (bt l 3) b1 w (lt256 3) (by decide) (by rw [oneCf (lt256 3), HB1.out]; unfold escBad1; rw [← HHF.out, decide_eq_true c3]; rfl))
            go_wp2_with fail
            refine (HO.out _).mono ?_
            rintro e w' ⟨rfl, rfl⟩
            go_wp2_with fail
            go_meet
            exact ⟨rfl, rfl⟩
          · have K : Hid (b1 = false) := by show _ = _; rw [HB1.out]; unfold escBad1; rw [← HHF.out, decide_eq_false c3]; rfl
            go_wp2_with fail
            go_meet
            exact ⟨by rw [K.out], rfl⟩
      case rest =>
      obtain ⟨rfl, rfl⟩ := hcut
      rw [← HB1.out] at K4
      cases b1 with
      | true =>
        have K : Hid (escR l = (false, false)) := by show _ = _; rw [K4.out]; rfl
        go_wp2_with fail
        go_ret2
        exact ⟨by rw [K.out]; rfl, rfl⟩
      | false =>
      have K5 : Hid (escR l = if escBad2 l = true then (false, false) else (true, (l.length == 6 && !escHigh l) || l.length == 12)) := by show _ = _; rw [K4.out]; rfl
      clear K4 HB1
      obtain ⟨b2, hb2⟩ : ∃ x, x = escBad2 l := ⟨_, rfl⟩
      have HB2 := Lib.hid hb2
      rw [← hb2, ← HHG.out] at K5
      clear hb2
      go_upto_region 16 with fail
      go_cut [123] (fun b wx => b = .bool b2 ∧ wx = wc)
      case first =>
        have KB : Hid (b2 = ((decide (6 < l.length) && !hg) || (decide (8 < l.length) && !dB (bt l 8)) || (decide (9 < l.length) && !cfB (bt l 9)))) := by
          show _ = _; rw [HB2.out, HHG.out]; rfl
        by_cases c6 : 6 < l.length ∧ hg = false
        · obtain ⟨c6, rfl⟩ := c6
          have K : Hid (b2 = true) := by show _ = _; rw [KB.out, decide_eq_true c6]; rfl
          go_wp2_with fail
          go_meet
          exact ⟨by rw [K.out], rfl⟩
        · have KC : Hid (b2 = ((decide (8 < l.length) && !dB (bt l 8)) || (decide (9 < l.length) && !cfB (bt l 9)))) := by
            show _ = _
            rw [KB.out]
            have : (decide (6 < l.length) && !hg) = false := by
              by_cases c : 6 < l.length
              · have : hg = true := by cases hg; exact absurd ⟨c, rfl⟩ c6; rfl
                rw [this]; simp
              · rw [decide_eq_false c]; rfl
            rw [this]; rfl
          clear KB
          by_cases c8 : 8 < l.length
          · have c66 : 6 < l.length := by omega
            obtain rfl : hg = true := by cases hg; exact absurd ⟨c66, rfl⟩ c6; rfl
            have hb := strOf_byte l 8 (by omega)
            cases hd8 : dB (bt l 8)
            · have K : Hid (b2 = true) := by show _ = _; rw [KC.out, decide_eq_true c8, hd8]; rfl
              have HO := Lib.hid (fun w => one_to [100, 68] (bt l 8) false w (lt256 8) (by decide) (by rw [oneD (lt256 8), hd8]))
              clear c6
              go_wp2_with fail
              refine (HO.out _).mono ?_
              rintro e w' ⟨rfl, rfl⟩
              go_wp2_with fail
              go_meet
              exact ⟨by rw [K.out], rfl⟩
            · have HO := Lib.hid (fun w => one_to [100, 68] (bt l 8) true w (lt256 8) (by decide) (by rw [oneD (lt256 8), hd8]))
              clear c6
              by_cases c9 : 9 < l.length
              · have K : Hid (b2 = !cfB (bt l 9)) := by show _ = _; rw [KC.out, decide_eq_true c8, hd8, decide_eq_true c9]; simp
                have hb9 := strOf_byte l 9 (by omega)
                have HO9 := Lib.hid (fun w => one_to [99, 100, 101, 102, 67, 68, 69, 70] (bt l 9) (cfB (bt l 9)) w (lt256 9) (by decide) (oneCf (lt256 9)))
                go_wp2_with fail
                refine (HO.out _).mono ?_
                rintro e w' ⟨rfl, rfl⟩
                go_wp2_with fail
                refine (HO9.out _).mono ?_
                rintro e w' ⟨rfl, rfl⟩
                go_wp2_with fail
                go_meet
                exact ⟨by rw [K.out], rfl⟩
              · have K : Hid (b2 = false) := by show _ = _; rw [KC.out, decide_eq_true c8, hd8, decide_eq_false c9]; rfl
                go_wp2_with fail
                refine (HO.out _).mono ?_
                rintro e w' ⟨rfl, rfl⟩
                go_wp2_with fail
                go_meet
                exact ⟨by rw [K.out], rfl⟩
          · have K : Hid (b2 = false) := by show _ = _; rw [KC.out, decide_eq_false c8, decide_eq_false (by omega : ¬ 9 < l.length)]; rfl
            by_cases c66 : 6 < l.length
            · obtain rfl : hg = true := by cases hg; exact absurd ⟨c66, rfl⟩ c6; rfl
              clear c6
              go_wp2_with fail
              go_meet
              exact ⟨by rw [K.out], rfl⟩
            · clear c6
              go_wp2_with fail
              go_meet
              exact ⟨by rw [K.out], rfl⟩
      case rest =>
      obtain ⟨rfl, rfl⟩ := hcut
      cases b2 with
      | true =>
        have K : Hid (escR l = (false, false)) := by show _ = _; rw [K5.out]; rfl
        go_wp2_with fail
        go_ret2
        exact ⟨by rw [K.out]; rfl, rfl⟩
      | false =>
      have K6 : Hid (escR l = (true, (l.length == 6 && !hg) || l.length == 12)) := by show _ = _; rw [K5.out]; rfl
      clear K5 HB2 HHG HHF
      by_cases c6 : l.length = 6
      · have q : ((l.length : Int) == 6) = true := eq_k (by omega)
        have q2 : ((l.length : Int) == 12) = false := ne_k (by omega)
        have K : Hid (escR l = (true, !hg)) := by show _ = _; rw [K6.out, c6]; simp
        clear c6 K6
        cases hg
        all_goals
          go_wp2_with fail
          go_ret2
          exact ⟨by rw [K.out]; rfl, rfl⟩
      · have q : ((l.length : Int) == 6) = false := ne_k (by omega)
        by_cases c12 : l.length = 12
        · have q2 : ((l.length : Int) == 12) = true := eq_k (by omega)
          have K : Hid (escR l = (true, true)) := by show _ = _; rw [K6.out, c12]; simp
          clear c6 c12 K6
          go_wp2_with fail
          go_ret2
          exact ⟨by rw [K.out]; rfl, rfl⟩
        · have q2 : ((l.length : Int) == 12) = false := ne_k (by omega)
          have K : Hid (escR l = (true, false)) := by
            show _ = _; rw [K6.out]
            have e1 : (l.length == 6) = false := by simpa using c6
            have e2 : (l.length == 12) = false := by simpa using c12
            rw [e1, e2]; rfl
          clear c6 c12 K6
          go_wp2_with fail
          go_ret2
          exact ⟨by rw [K.out]; rfl, rfl⟩
end Go.Proofs.Ytmfldffbafamnaa
