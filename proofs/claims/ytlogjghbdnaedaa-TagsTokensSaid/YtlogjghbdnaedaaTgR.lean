/- Walks: the document's references: digit, numbered (chapter 6, as chapter 11 has them). -/
import Derived.Test.YtlogjghbdnaedaaTgC
namespace Go.Proofs.Ytlogjghbdnaedaa
open Go.RowKit
set_option linter.unusedVariables false
set_option linter.unusedSimpArgs false
def digI (base c : Nat) : Int := if wth c < base then (wth c : Int) else -1
set_option maxHeartbeats 2000000 in
theorem rdig16 (c : Nat) (w : World) (hc : c < 256) :
    Calls Try.prog 73 #[.int .u8 c, .int .i64 16] w fun e w' => e = .returned (.int .i64 (digI 16 c)) ∧ w = w' := by
  have hiv : c ≤ 47 ∨ (48 ≤ c ∧ c ≤ 57) ∨ (58 ≤ c ∧ c ≤ 64) ∨ (65 ≤ c ∧ c ≤ 70) ∨ (71 ≤ c ∧ c ≤ 96) ∨ (97 ≤ c ∧ c ≤ 102) ∨ 103 ≤ c := by omega
  rcases hiv with h | ⟨h, h'⟩ | ⟨h, h'⟩ | ⟨h, h'⟩ | ⟨h, h'⟩ | ⟨h, h'⟩ | h
  · have HV : Hid (digI 16 c = -1) := by
        show _ = _
        have hw : wth c = 16 := by unfold wth; rw [if_neg (by omega), if_neg (by omega), if_neg (by omega)]
        unfold digI; rw [if_neg (by omega)]
    have a48 : c < 48 := by omega
    have b57 : c ≤ 57 := by omega
    have a65 : c < 65 := by omega
    have b70 : c ≤ 70 := by omega
    have a97 : c < 97 := by omega
    have b102 : c ≤ 102 := by omega
    go_enter Try.func73, Try.ntmps73
    go_wp2_with fail
    go_ret
    exact ⟨by rw [HV.out]; rfl, rfl⟩
  · have HV : Hid (digI 16 c = (c : Int) - 48) := by
        show _ = _
        have hw : wth c + 48 = c := by unfold wth; rw [if_pos (by omega)]; omega
        unfold digI; rw [if_pos (by omega)]; omega
    have a48 : 48 ≤ c := by omega
    have b57 : c ≤ 57 := by omega
    have a65 : c < 65 := by omega
    have b70 : c ≤ 70 := by omega
    have a97 : c < 97 := by omega
    have b102 : c ≤ 102 := by omega
    have z1 : ¬ (16 : Int) ≤ (c : Int) - 48 := by omega
    go_enter Try.func73, Try.ntmps73
    go_wp2_with fail
    go_ret
    exact ⟨by rw [HV.out]; first | rfl | (congr 2; omega), rfl⟩
  · have HV : Hid (digI 16 c = -1) := by
        show _ = _
        have hw : wth c = 16 := by unfold wth; rw [if_neg (by omega), if_neg (by omega), if_neg (by omega)]
        unfold digI; rw [if_neg (by omega)]
    have a48 : 48 ≤ c := by omega
    have b57 : 57 < c := by omega
    have a65 : c < 65 := by omega
    have b70 : c ≤ 70 := by omega
    have a97 : c < 97 := by omega
    have b102 : c ≤ 102 := by omega
    go_enter Try.func73, Try.ntmps73
    go_wp2_with fail
    go_ret
    exact ⟨by rw [HV.out]; rfl, rfl⟩
  · have HV : Hid (digI 16 c = (c : Int) - 65 + 10) := by
        show _ = _
        have hw : wth c + 55 = c := by unfold wth; rw [if_neg (by omega), if_pos (by omega)]; omega
        unfold digI; rw [if_pos (by omega)]; omega
    have a48 : 48 ≤ c := by omega
    have b57 : 57 < c := by omega
    have a65 : 65 ≤ c := by omega
    have b70 : c ≤ 70 := by omega
    have a97 : c < 97 := by omega
    have b102 : c ≤ 102 := by omega
    have z1 : ¬ (16 : Int) ≤ (c : Int) - 55 := by omega
    have z2 : ¬ (16 : Int) ≤ (c : Int) - 65 + 10 := by omega
    go_enter Try.func73, Try.ntmps73
    go_wp2_with fail
    go_ret
    exact ⟨by rw [HV.out]; first | rfl | (congr 2; omega), rfl⟩
  · have HV : Hid (digI 16 c = -1) := by
        show _ = _
        have hw : wth c = 16 := by unfold wth; rw [if_neg (by omega), if_neg (by omega), if_neg (by omega)]
        unfold digI; rw [if_neg (by omega)]
    have a48 : 48 ≤ c := by omega
    have b57 : 57 < c := by omega
    have a65 : 65 ≤ c := by omega
    have b70 : 70 < c := by omega
    have a97 : c < 97 := by omega
    have b102 : c ≤ 102 := by omega
    go_enter Try.func73, Try.ntmps73
    go_wp2_with fail
    go_ret
    exact ⟨by rw [HV.out]; rfl, rfl⟩
  · have HV : Hid (digI 16 c = (c : Int) - 97 + 10) := by
        show _ = _
        have hw : wth c + 87 = c := by unfold wth; rw [if_neg (by omega), if_neg (by omega), if_pos (by omega)]; omega
        unfold digI; rw [if_pos (by omega)]; omega
    have a48 : 48 ≤ c := by omega
    have b57 : 57 < c := by omega
    have a65 : 65 ≤ c := by omega
    have b70 : 70 < c := by omega
    have a97 : 97 ≤ c := by omega
    have b102 : c ≤ 102 := by omega
    have z1 : ¬ (16 : Int) ≤ (c : Int) - 87 := by omega
    have z2 : ¬ (16 : Int) ≤ (c : Int) - 97 + 10 := by omega
    go_enter Try.func73, Try.ntmps73
    go_wp2_with fail
    go_ret
    exact ⟨by rw [HV.out]; first | rfl | (congr 2; omega), rfl⟩
  · have HV : Hid (digI 16 c = -1) := by
        show _ = _
        have hw : wth c = 16 := by unfold wth; rw [if_neg (by omega), if_neg (by omega), if_neg (by omega)]
        unfold digI; rw [if_neg (by omega)]
    have a48 : 48 ≤ c := by omega
    have b57 : 57 < c := by omega
    have a65 : 65 ≤ c := by omega
    have b70 : 70 < c := by omega
    have a97 : 97 ≤ c := by omega
    have b102 : 102 < c := by omega
    go_enter Try.func73, Try.ntmps73
    go_wp2_with fail
    go_ret
    exact ⟨by rw [HV.out]; rfl, rfl⟩
set_option maxHeartbeats 2000000 in
theorem rdig10 (c : Nat) (w : World) (hc : c < 256) :
    Calls Try.prog 73 #[.int .u8 c, .int .i64 10] w fun e w' => e = .returned (.int .i64 (digI 10 c)) ∧ w = w' := by
  have hiv : c ≤ 47 ∨ (48 ≤ c ∧ c ≤ 57) ∨ (58 ≤ c ∧ c ≤ 64) ∨ (65 ≤ c ∧ c ≤ 70) ∨ (71 ≤ c ∧ c ≤ 96) ∨ (97 ≤ c ∧ c ≤ 102) ∨ 103 ≤ c := by omega
  rcases hiv with h | ⟨h, h'⟩ | ⟨h, h'⟩ | ⟨h, h'⟩ | ⟨h, h'⟩ | ⟨h, h'⟩ | h
  · have HV : Hid (digI 10 c = -1) := by
        show _ = _
        have hw : wth c = 16 := by unfold wth; rw [if_neg (by omega), if_neg (by omega), if_neg (by omega)]
        unfold digI; rw [if_neg (by omega)]
    have a48 : c < 48 := by omega
    have b57 : c ≤ 57 := by omega
    have a65 : c < 65 := by omega
    have b70 : c ≤ 70 := by omega
    have a97 : c < 97 := by omega
    have b102 : c ≤ 102 := by omega
    go_enter Try.func73, Try.ntmps73
    go_wp2_with fail
    go_ret
    exact ⟨by rw [HV.out]; rfl, rfl⟩
  · have HV : Hid (digI 10 c = (c : Int) - 48) := by
        show _ = _
        have hw : wth c + 48 = c := by unfold wth; rw [if_pos (by omega)]; omega
        unfold digI; rw [if_pos (by omega)]; omega
    have a48 : 48 ≤ c := by omega
    have b57 : c ≤ 57 := by omega
    have a65 : c < 65 := by omega
    have b70 : c ≤ 70 := by omega
    have a97 : c < 97 := by omega
    have b102 : c ≤ 102 := by omega
    have z1 : ¬ (10 : Int) ≤ (c : Int) - 48 := by omega
    go_enter Try.func73, Try.ntmps73
    go_wp2_with fail
    go_ret
    exact ⟨by rw [HV.out]; first | rfl | (congr 2; omega), rfl⟩
  · have HV : Hid (digI 10 c = -1) := by
        show _ = _
        have hw : wth c = 16 := by unfold wth; rw [if_neg (by omega), if_neg (by omega), if_neg (by omega)]
        unfold digI; rw [if_neg (by omega)]
    have a48 : 48 ≤ c := by omega
    have b57 : 57 < c := by omega
    have a65 : c < 65 := by omega
    have b70 : c ≤ 70 := by omega
    have a97 : c < 97 := by omega
    have b102 : c ≤ 102 := by omega
    go_enter Try.func73, Try.ntmps73
    go_wp2_with fail
    go_ret
    exact ⟨by rw [HV.out]; rfl, rfl⟩
  · have HV : Hid (digI 10 c = -1) := by
        show _ = _
        have hw : wth c + 55 = c := by unfold wth; rw [if_neg (by omega), if_pos (by omega)]; omega
        unfold digI; rw [if_neg (by omega)]
    have a48 : 48 ≤ c := by omega
    have b57 : 57 < c := by omega
    have a65 : 65 ≤ c := by omega
    have b70 : c ≤ 70 := by omega
    have a97 : c < 97 := by omega
    have b102 : c ≤ 102 := by omega
    have z2 : (10 : Int) ≤ (c : Int) - 65 + 10 := by omega
    go_enter Try.func73, Try.ntmps73
    go_wp2_with fail
    go_ret
    exact ⟨by rw [HV.out]; rfl, rfl⟩
  · have HV : Hid (digI 10 c = -1) := by
        show _ = _
        have hw : wth c = 16 := by unfold wth; rw [if_neg (by omega), if_neg (by omega), if_neg (by omega)]
        unfold digI; rw [if_neg (by omega)]
    have a48 : 48 ≤ c := by omega
    have b57 : 57 < c := by omega
    have a65 : 65 ≤ c := by omega
    have b70 : 70 < c := by omega
    have a97 : c < 97 := by omega
    have b102 : c ≤ 102 := by omega
    go_enter Try.func73, Try.ntmps73
    go_wp2_with fail
    go_ret
    exact ⟨by rw [HV.out]; rfl, rfl⟩
  · have HV : Hid (digI 10 c = -1) := by
        show _ = _
        have hw : wth c + 87 = c := by unfold wth; rw [if_neg (by omega), if_neg (by omega), if_pos (by omega)]; omega
        unfold digI; rw [if_neg (by omega)]
    have a48 : 48 ≤ c := by omega
    have b57 : 57 < c := by omega
    have a65 : 65 ≤ c := by omega
    have b70 : 70 < c := by omega
    have a97 : 97 ≤ c := by omega
    have b102 : c ≤ 102 := by omega
    have z2 : (10 : Int) ≤ (c : Int) - 97 + 10 := by omega
    go_enter Try.func73, Try.ntmps73
    go_wp2_with fail
    go_ret
    exact ⟨by rw [HV.out]; rfl, rfl⟩
  · have HV : Hid (digI 10 c = -1) := by
        show _ = _
        have hw : wth c = 16 := by unfold wth; rw [if_neg (by omega), if_neg (by omega), if_neg (by omega)]
        unfold digI; rw [if_neg (by omega)]
    have a48 : 48 ≤ c := by omega
    have b57 : 57 < c := by omega
    have a65 : 65 ≤ c := by omega
    have b70 : 70 < c := by omega
    have a97 : 97 ≤ c := by omega
    have b102 : 102 < c := by omega
    go_enter Try.func73, Try.ntmps73
    go_wp2_with fail
    go_ret
    exact ⟨by rw [HV.out]; rfl, rfl⟩
/-- What 'numbered' says. -/
def numV (base most : Nat) (l : List UInt8) : Nat × Nat := if 1 ≤ (numD base most 0 l).2 ∧ bt l (numD base most 0 l).2 = 59 then ((numD base most 0 l).1, (numD base most 0 l).2 + 1) else (0, 0)
theorem numD_none {base : Nat} : ∀ (f n : Nat) (l : List UInt8), (numD base f n l).2 = 0 → (numD base f n l).1 = n
  | 0, n, l, _ => rfl
  | f + 1, n, [], _ => rfl
  | f + 1, n, c :: t, h => by
    rw [numD_cons] at h ⊢
    split
    · rename_i h1; rw [if_pos h1] at h; simp at h
    · rfl
theorem numR_V (base most : Nat) (l : List UInt8) : numR base most l = if (numV base most l).2 ≠ 0 ∧ (numV base most l).1 ≠ 0 ∧ isRune ((numV base most l).1 : Int) then some (numV base most l) else none := by
  unfold numR numV
  have h0 := numD_none (base := base) most 0 l
  generalize numD base most 0 l = p at *
  obtain ⟨v, m⟩ := p
  dsimp only at *
  by_cases h : 1 ≤ m ∧ bt l m = 59
  · rw [if_pos h]
    dsimp only
    by_cases h2 : 0 < v ∧ isRune (v : Int)
    · rw [if_pos ⟨h2.1, h2.2, h.2⟩, if_pos ⟨by omega, by omega, h2.2⟩]
    · rw [if_neg (fun x => h2 ⟨x.1, x.2.1⟩), if_neg (fun x => h2 ⟨by omega, x.2.2⟩)]
  · rw [if_neg h]
    dsimp only
    rw [if_neg (fun x => h ⟨by rcases Nat.eq_zero_or_pos m with h1 | h1; (have := h0 h1; omega); exact h1, x.2.2⟩), if_neg (fun x => x.1 rfl)]
theorem NumM.at_ {base most : Nat} {l : List UInt8} {i n : Nat} (h : NumM base most 0 l i n) {r : Nat × Nat} (hr : numV base most l = r) (hd : numD base most 0 l = (n, i)) : r = if 1 ≤ i ∧ bt l i = 59 then (n, i + 1) else (0, 0) := by
  rw [← hr]; unfold numV; rw [hd]
set_option maxRecDepth 100000 in
set_option maxHeartbeats 8000000 in
theorem rnum16 (s : ByteArray) (w : World) (hs : s.size ≤ 1000000) :
    Calls Try.prog 70 #[.string s, .int .i64 16, .int .i64 6] w fun e w' => e = .returned (.tuple #[.int .i64 (numV 16 6 s.data.toList).1, .int .i64 (numV 16 6 s.data.toList).2]) ∧ w = w' := by
  have hl := Lib.hid (sz_len s)
  obtain ⟨r, hr⟩ : ∃ r, numV 16 6 s.data.toList = r := ⟨_, rfl⟩
  rw [hr]
  have HR := Lib.hid hr
  clear hr
  go_enter Try.func70, Try.ntmps70
  go_wp2_with fail
  go_loop [8, 9] (fun x y => ∃ n i : Nat, x = .int .i64 n ∧ y = .int .i64 i ∧ n ≤ 268435472 ∧ i ≤ 7 ∧ ((NumM 16 6 0 s.data.toList i n ∧ i ≤ s.size) ∨ (i = 7 ∧ r = (0, 0)))) (fun _ y => 8 - (intOf y).toNat)
  case atStart => exact ⟨0, 0, rfl, rfl, by omega, by omega, .inl ⟨NumM.zero _ _ _ _, Nat.zero_le _⟩⟩
  case round =>
    obtain ⟨n, i, rfl, rfl, hn7, hi7, hm | ⟨rfl, hr0⟩⟩ := hrel
    · obtain ⟨hm, his⟩ := hm
      have HM := Lib.hid hm
      have hi := hm.le
      have hnl : n ≤ 16777216 := by
        have h1 := hm.lt
        have h2 : 16 ^ i ≤ 16 ^ 6 := Nat.pow_le_pow_right (by omega) hi
        have h3 : 16 ^ 6 = 16777216 := rfl
        omega
      clear hm hn7 hi7
      by_cases hlt : i < s.size
      · have hx := bt_byte s i hlt
        have y0 := bt_lt s.data.toList i
        have hz : 0 + i = i := Nat.zero_add i
        have hnd : (16 ≤ wth (bt s.data.toList i) ∨ i = 6) → numD 16 6 0 s.data.toList = (n, i) := by
          intro h
          by_cases h1 : i = 6
          · have h2 := HM.out
            rw [h1] at h2 ⊢
            exact h2.full
          · have := HM.out.stop (by omega) (by rw [hz, ← hl.out]; exact hlt) (by rw [hz]; rcases h with h | h; exact h; exact absurd h h1)
            exact this
        have hdd : wth 59 = 16 := rfl
        have HND := Lib.hid hnd
        have HST := Lib.hid (fun h1 h2 => HM.out.step h1 (by rw [hz, ← hl.out]; exact hlt) h2)
        rw [hz] at HST
        have HAT := Lib.hid (fun h => HM.out.at_ HR.out (HND.out h))
        clear hnd hz
        by_cases h59 : bt s.data.toList i = 59
        · by_cases hi0 : 0 < i
          · have HV : Hid (r = (n, i + 1)) := by
              show _ = _
              rw [HAT.out (.inl (by rw [h59, hdd]; omega)), if_pos ⟨by omega, h59⟩]
            have g1 : (0 : Int) < (i : Int) := by omega
            rw [h59] at hx
            clear HAT HST HND h59 y0 hdd
            go_wp2_with fail
            go_ret2
            exact ⟨by rw [HV.out]; rfl, rfl⟩
          · have HV : Hid (r = (0, 0)) := by
              show _ = _
              rw [HAT.out (.inl (by rw [h59, hdd]; omega)), if_neg (by omega)]
            have g1 : ¬ (0 : Int) < (i : Int) := by omega
            have HD := Lib.hid (fun w => rdig16 59 w (by omega))
            have hdv : digI 16 59 = -1 := by rfl
            rw [hdv] at HD
            rw [h59] at hx
            clear HAT HST HND h59 y0 hdd hdv
            go_wp2_with fail
            refine (HD.out _).mono ?_
            rintro e w2 ⟨rfl, rfl⟩
            go_wp2_with fail
            go_ret2
            exact ⟨by rw [HV.out]; rfl, rfl⟩
        · have q1 : ((bt s.data.toList i : Int) == 59) = false := by simp; omega
          have HD := Lib.hid (fun w => rdig16 (bt s.data.toList i) w y0)
          by_cases hdg : wth (bt s.data.toList i) < 16
          · have hdv : digI 16 (bt s.data.toList i) = (wth (bt s.data.toList i) : Nat) := by unfold digI; rw [if_pos hdg]
            rw [hdv] at HD
            have HQ : Hid (n * 16 + wth (bt s.data.toList i) ≤ 268435472 ∧ i + 1 ≤ 7 ∧ ((NumM 16 6 0 s.data.toList (i + 1) (n * 16 + wth (bt s.data.toList i)) ∧ i + 1 ≤ s.size) ∨ (i + 1 = 7 ∧ r = (0, 0)))) := by
              refine ⟨by omega, by omega, ?_⟩
              by_cases h1 : i < 6
              · exact .inl ⟨HST.out h1 hdg, by omega⟩
              · refine .inr ⟨by omega, ?_⟩
                rw [HAT.out (.inr (by omega)), if_neg (fun h => h59 h.2)]
            clear HAT HST HND h59 hdv
            generalize wth (bt s.data.toList i) = d at *
            generalize bt s.data.toList i = c at *
            have g2 : ¬ (d : Int) < 0 := by omega
            have HE : Hid ((n : Int) * 16 + (d : Int) = ((n * 16 + d : Nat) : Int)) := by show _ = _; omega
            go_wp2_with fail
            refine (HD.out _).mono ?_
            rintro e w2 ⟨rfl, rfl⟩
            go_wp2_with fail
            go_round
            case rel => exact ⟨n * 16 + d, i + 1, congrArg (Value.int .i64) HE.out, by go_num, HQ.out.1, HQ.out.2.1, HQ.out.2.2⟩
            case measure => simp [intOf]; omega
          · have hdv : digI 16 (bt s.data.toList i) = -1 := by unfold digI; rw [if_neg hdg]
            rw [hdv] at HD
            have HV : Hid (r = (0, 0)) := by
              show _ = _
              rw [HAT.out (.inl (by omega)), if_neg (fun h => h59 h.2)]
            clear HAT HST HND h59 hdv hdg
            generalize bt s.data.toList i = c at *
            go_wp2_with fail
            refine (HD.out _).mono ?_
            rintro e w2 ⟨rfl, rfl⟩
            go_wp2_with fail
            go_ret2
            exact ⟨by rw [HV.out]; rfl, rfl⟩
      · have HV : Hid (r = (0, 0)) := by
          show _ = _
          have h := HM.out.at_ HR.out (HM.out.over (by rw [← hl.out]; omega))
          rw [h, bt_out (by rw [← hl.out]; omega), if_neg (fun h => by omega)]
        go_wp2_with fail
        go_ret2
        exact ⟨by rw [HV.out]; rfl, rfl⟩
    · have HV := Lib.hid hr0
      clear hr0 HR
      by_cases hlt : 7 < s.size
      · go_wp2_with fail
        go_ret2
        exact ⟨by rw [HV.out]; rfl, rfl⟩
      · go_wp2_with fail
        go_ret2
        exact ⟨by rw [HV.out]; rfl, rfl⟩
set_option maxRecDepth 100000 in
set_option maxHeartbeats 8000000 in
theorem rnum10 (s : ByteArray) (w : World) (hs : s.size ≤ 1000000) :
    Calls Try.prog 70 #[.string s, .int .i64 10, .int .i64 7] w fun e w' => e = .returned (.tuple #[.int .i64 (numV 10 7 s.data.toList).1, .int .i64 (numV 10 7 s.data.toList).2]) ∧ w = w' := by
  have hl := Lib.hid (sz_len s)
  obtain ⟨r, hr⟩ : ∃ r, numV 10 7 s.data.toList = r := ⟨_, rfl⟩
  rw [hr]
  have HR := Lib.hid hr
  clear hr
  go_enter Try.func70, Try.ntmps70
  go_wp2_with fail
  go_loop [8, 9] (fun x y => ∃ n i : Nat, x = .int .i64 n ∧ y = .int .i64 i ∧ n ≤ 100000016 ∧ i ≤ 8 ∧ ((NumM 10 7 0 s.data.toList i n ∧ i ≤ s.size) ∨ (i = 8 ∧ r = (0, 0)))) (fun _ y => 9 - (intOf y).toNat)
  case atStart => exact ⟨0, 0, rfl, rfl, by omega, by omega, .inl ⟨NumM.zero _ _ _ _, Nat.zero_le _⟩⟩
  case round =>
    obtain ⟨n, i, rfl, rfl, hn7, hi7, hm | ⟨rfl, hr0⟩⟩ := hrel
    · obtain ⟨hm, his⟩ := hm
      have HM := Lib.hid hm
      have hi := hm.le
      have hnl : n ≤ 10000000 := by
        have h1 := hm.lt
        have h2 : 10 ^ i ≤ 10 ^ 7 := Nat.pow_le_pow_right (by omega) hi
        have h3 : 10 ^ 7 = 10000000 := rfl
        omega
      clear hm hn7 hi7
      by_cases hlt : i < s.size
      · have hx := bt_byte s i hlt
        have y0 := bt_lt s.data.toList i
        have hz : 0 + i = i := Nat.zero_add i
        have hnd : (10 ≤ wth (bt s.data.toList i) ∨ i = 7) → numD 10 7 0 s.data.toList = (n, i) := by
          intro h
          by_cases h1 : i = 7
          · have h2 := HM.out
            rw [h1] at h2 ⊢
            exact h2.full
          · have := HM.out.stop (by omega) (by rw [hz, ← hl.out]; exact hlt) (by rw [hz]; rcases h with h | h; exact h; exact absurd h h1)
            exact this
        have hdd : wth 59 = 16 := rfl
        have HND := Lib.hid hnd
        have HST := Lib.hid (fun h1 h2 => HM.out.step h1 (by rw [hz, ← hl.out]; exact hlt) h2)
        rw [hz] at HST
        have HAT := Lib.hid (fun h => HM.out.at_ HR.out (HND.out h))
        clear hnd hz
        by_cases h59 : bt s.data.toList i = 59
        · by_cases hi0 : 0 < i
          · have HV : Hid (r = (n, i + 1)) := by
              show _ = _
              rw [HAT.out (.inl (by rw [h59, hdd]; omega)), if_pos ⟨by omega, h59⟩]
            have g1 : (0 : Int) < (i : Int) := by omega
            rw [h59] at hx
            clear HAT HST HND h59 y0 hdd
            go_wp2_with fail
            go_ret2
            exact ⟨by rw [HV.out]; rfl, rfl⟩
          · have HV : Hid (r = (0, 0)) := by
              show _ = _
              rw [HAT.out (.inl (by rw [h59, hdd]; omega)), if_neg (by omega)]
            have g1 : ¬ (0 : Int) < (i : Int) := by omega
            have HD := Lib.hid (fun w => rdig10 59 w (by omega))
            have hdv : digI 10 59 = -1 := by rfl
            rw [hdv] at HD
            rw [h59] at hx
            clear HAT HST HND h59 y0 hdd hdv
            go_wp2_with fail
            refine (HD.out _).mono ?_
            rintro e w2 ⟨rfl, rfl⟩
            go_wp2_with fail
            go_ret2
            exact ⟨by rw [HV.out]; rfl, rfl⟩
        · have q1 : ((bt s.data.toList i : Int) == 59) = false := by simp; omega
          have HD := Lib.hid (fun w => rdig10 (bt s.data.toList i) w y0)
          by_cases hdg : wth (bt s.data.toList i) < 10
          · have hdv : digI 10 (bt s.data.toList i) = (wth (bt s.data.toList i) : Nat) := by unfold digI; rw [if_pos hdg]
            rw [hdv] at HD
            have HQ : Hid (n * 10 + wth (bt s.data.toList i) ≤ 100000016 ∧ i + 1 ≤ 8 ∧ ((NumM 10 7 0 s.data.toList (i + 1) (n * 10 + wth (bt s.data.toList i)) ∧ i + 1 ≤ s.size) ∨ (i + 1 = 8 ∧ r = (0, 0)))) := by
              refine ⟨by omega, by omega, ?_⟩
              by_cases h1 : i < 7
              · exact .inl ⟨HST.out h1 hdg, by omega⟩
              · refine .inr ⟨by omega, ?_⟩
                rw [HAT.out (.inr (by omega)), if_neg (fun h => h59 h.2)]
            clear HAT HST HND h59 hdv
            generalize wth (bt s.data.toList i) = d at *
            generalize bt s.data.toList i = c at *
            have g2 : ¬ (d : Int) < 0 := by omega
            have HE : Hid ((n : Int) * 10 + (d : Int) = ((n * 10 + d : Nat) : Int)) := by show _ = _; omega
            go_wp2_with fail
            refine (HD.out _).mono ?_
            rintro e w2 ⟨rfl, rfl⟩
            go_wp2_with fail
            go_round
            case rel => exact ⟨n * 10 + d, i + 1, congrArg (Value.int .i64) HE.out, by go_num, HQ.out.1, HQ.out.2.1, HQ.out.2.2⟩
            case measure => simp [intOf]; omega
          · have hdv : digI 10 (bt s.data.toList i) = -1 := by unfold digI; rw [if_neg hdg]
            rw [hdv] at HD
            have HV : Hid (r = (0, 0)) := by
              show _ = _
              rw [HAT.out (.inl (by omega)), if_neg (fun h => h59 h.2)]
            clear HAT HST HND h59 hdv hdg
            generalize bt s.data.toList i = c at *
            go_wp2_with fail
            refine (HD.out _).mono ?_
            rintro e w2 ⟨rfl, rfl⟩
            go_wp2_with fail
            go_ret2
            exact ⟨by rw [HV.out]; rfl, rfl⟩
      · have HV : Hid (r = (0, 0)) := by
          show _ = _
          have h := HM.out.at_ HR.out (HM.out.over (by rw [← hl.out]; omega))
          rw [h, bt_out (by rw [← hl.out]; omega), if_neg (fun h => by omega)]
        go_wp2_with fail
        go_ret2
        exact ⟨by rw [HV.out]; rfl, rfl⟩
    · have HV := Lib.hid hr0
      clear hr0 HR
      by_cases hlt : 8 < s.size
      · go_wp2_with fail
        go_ret2
        exact ⟨by rw [HV.out]; rfl, rfl⟩
      · go_wp2_with fail
        go_ret2
        exact ⟨by rw [HV.out]; rfl, rfl⟩
end Go.Proofs.Ytlogjghbdnaedaa
