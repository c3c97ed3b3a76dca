/- Walks: the document's digits, number, str, Blank (chapter 10). -/
import Derived.Test.YtjnmcadfaombjaaQuoF
import Derived.Test.YtjnmcadfaombjaaJsSpec
import Derived.Deep.DeepCutAuto
import Derived.Outline
namespace Go.Proofs.Ytjnmcadfaombjaa
open Go.RowKit
set_option linter.unusedVariables false
set_option linter.unusedSimpArgs false
theorem rdigits_any (s : ByteArray) (k : Nat) (w : World) (hs : s.size ≤ 1000000) (hk : k ≤ 2000000) :
    Calls Try.prog 66 #[.string s, .int .i64 k] w fun e w' => e = .returned (.int .i64 (digE s.data.toList k)) ∧ w = w' := by
  have hl := Lib.hid (sz_len s)
  go_enter Try.func66, Try.ntmps66
  go_wp2_with fail
  go_loop [1] (fun i => ∃ j : Nat, i = .int .i64 j ∧ k ≤ j ∧ (j ≤ s.size ∨ j = k) ∧ digE s.data.toList k = digE s.data.toList j) (fun i => s.size - (intOf i).toNat)
  case atStart => exact ⟨k, rfl, Nat.le_refl _, .inr rfl, rfl⟩
  case round =>
    obtain ⟨j, rfl, hkj, hj, he⟩ := hrel
    have HE := Lib.hid he
    clear he
    by_cases hlt : j < s.size
    · have hlt2 : j < s.data.toList.length := by rw [← hl.out]; exact hlt
      have hx := bt_byte s j hlt
      have y0 := bt_lt s.data.toList j
      by_cases hd : isDg (bt s.data.toList j)
      · have HS : Hid (digE s.data.toList k = digE s.data.toList (j + 1)) := by show _ = _; rw [HE.out, digE_yes hlt2 hd]
        unfold isDg at hd
        obtain ⟨h1, h2⟩ := hd
        clear hlt2 hj
        generalize bt s.data.toList j = c at *
        go_wp2_with fail
        go_round
        case rel => exact ⟨j + 1, by go_num, by omega, .inl (by omega), HS.out⟩
        case measure => simp [intOf]; omega
      · have HS : Hid (digE s.data.toList k = j) := by show _ = _; rw [HE.out, digE_no hd]
        have h1 : bt s.data.toList j < 48 ∨ 58 ≤ bt s.data.toList j := by unfold isDg at hd; omega
        clear hlt2 hj hd
        generalize bt s.data.toList j = c at *
        rcases h1 with h1 | h1
        all_goals
          go_wp2_with fail
          go_ret
          exact ⟨by rw [HS.out]; rfl, rfl⟩
    · have HS : Hid (digE s.data.toList k = j) := by show _ = _; rw [HE.out, digE_out _ _ (by rw [← hl.out]; omega)]
      clear hj
      go_wp2_with fail
      go_ret
      exact ⟨by rw [HS.out]; rfl, rfl⟩
theorem rdigits_to (s : ByteArray) (k e : Nat) (w : World) (hs : s.size ≤ 1000000) (hk : k ≤ 2000000) (he : digE s.data.toList k = e) :
    Calls Try.prog 66 #[.string s, .int .i64 k] w fun e' w' => e' = .returned (.int .i64 e) ∧ w = w' := by
  rw [← he]; exact rdigits_any s k w hs hk
/-- Does a sign stand at a place? -/
theorem rsign (s : ByteArray) (k : Nat) (c : UInt8) (b : Bool) (w : World) (hs : s.size ≤ 1000000) (hc : c.toNat ≠ 0) (hb : decide (bt s.data.toList k = c.toNat) = b) :
    Calls Try.prog 43 #[.string s, .string ⟨#[c]⟩, .int .i64 k] w fun e w' => e = .returned (.bool b) ∧ w = w' := by
  have h := rbegins_any s ⟨#[c]⟩ k w (by omega) (by show 1 ≤ _; omega)
  have h2 : beginsL s.data.toList (⟨#[c]⟩ : ByteArray).data.toList k = b := (begins_one s.data.toList c k hc).trans hb
  rw [h2] at h
  exact h
def numI (o : Option Nat) : Int := match o with | some e => e | none => -1
set_option maxRecDepth 100000 in
set_option maxHeartbeats 4000000 in
theorem rnumber_any (s : ByteArray) (k : Nat) (w : World) (hs : s.size ≤ 1000000) (hk : k < s.size) :
    Calls Try.prog 44 #[.string s, .int .i64 k] w fun e w' => e = .returned (.int .i64 (numI (numE s.data.toList k))) ∧ w = w' := by
  have hl := sz_len s
  have HL := Lib.hid hl
  have hs0 := numStart_bd s.data.toList k (by omega)
  have HS := Lib.hid (fun k' c b w hc hb => rsign s k' c b w hs hc hb)
  have HD := Lib.hid (fun k' w hk => rdigits_any s k' w hs hk)
  have HN : Hid (numE s.data.toList k = if digE s.data.toList (numStart s.data.toList k) = numStart s.data.toList k then none else some (numExp s.data.toList (numFrac s.data.toList (numInt s.data.toList (numStart s.data.toList k))))) := rfl
  obtain ⟨b0, hb0, HK0⟩ : ∃ b0, decide (bt s.data.toList k = (45 : UInt8).toNat) = b0 ∧ Hid ((b0 = true ∧ numStart s.data.toList k = k + 1) ∨ (b0 = false ∧ numStart s.data.toList k = k)) := by
    unfold numStart
    by_cases h : bt s.data.toList k = 45
    · exact ⟨true, decide_eq_true h, .inl ⟨rfl, if_pos h⟩⟩
    · exact ⟨false, decide_eq_false h, .inr ⟨rfl, if_neg h⟩⟩
  have HB0 := Lib.hid (fun w => HS.out k 45 b0 w (by decide) hb0)
  clear hb0
  have hk0l : numStart s.data.toList k ≤ s.size := by omega
  have hk0g : k ≤ numStart s.data.toList k := hs0.1
  generalize numStart s.data.toList k = k0 at *
  clear hs0 hl
  go_enter Try.func44, Try.ntmps44
  go_wp2_with fail
  refine (HB0.out _).mono ?_
  rintro e w' ⟨rfl, rfl⟩
  go_upto_if 9 with fail
  go_cut [1] (fun v wx => v = .int .i64 k0 ∧ w = wx)
  case first =>
    rcases HK0.out with ⟨rfl, hkk⟩ | ⟨rfl, hkk⟩
    · have HKK := Lib.hid hkk
      clear HS hkk HK0
      go_wp2_with fail
      go_meet
      exact ⟨by rw [HKK.out]; go_num, rfl⟩
    · have HKK := Lib.hid hkk
      clear HS hkk HK0
      go_wp2_with fail
      go_meet
      exact ⟨by rw [HKK.out], rfl⟩
  case rest =>
  obtain ⟨rfl, rfl⟩ := hcut
  clear HK0 HB0
  have HD0 := Lib.hid (fun w => HD.out k0 w (by omega))
  by_cases hz : digE s.data.toList k0 = k0
  · rw [hz, if_pos rfl] at HN
    rw [hz] at HD0
    have hq : ((k0 : Int) == (k0 : Int)) = true := by simp
    clear hz
    go_wp2_with fail
    refine (HD0.out _).mono ?_
    rintro e w' ⟨rfl, rfl⟩
    go_wp2_with fail
    go_ret
    exact ⟨by rw [HN.out]; rfl, rfl⟩
  · rw [if_neg hz] at HN
    obtain ⟨hklt, hdg⟩ := digE_pos hz
    rw [← HL.out] at hklt
    have hge := digE_ge s.data.toList k0
    have hle := digE_le s.data.toList k0 (by have := HL.out; omega)
    rw [← HL.out] at hle
    obtain ⟨b1, hb1, HI⟩ : ∃ b1, ((bt s.data.toList k0 : Int) == 48) = b1 ∧ Hid ((b1 = true ∧ numInt s.data.toList k0 = k0 + 1) ∨ (b1 = false ∧ numInt s.data.toList k0 = digE s.data.toList k0)) := by
      unfold numInt
      by_cases h : bt s.data.toList k0 = 48
      · exact ⟨true, by simp; omega, .inl ⟨rfl, if_pos h⟩⟩
      · exact ⟨false, by simp; omega, .inr ⟨rfl, if_neg h⟩⟩
    have hil : numInt s.data.toList k0 ≤ s.size := by rcases HI.out with ⟨_, h⟩ | ⟨_, h⟩ <;> omega
    have HF := Lib.hid (numFrac_bd s.data.toList (numInt s.data.toList k0) (by have := HL.out; omega))
    have hx := bt_byte s k0 hklt
    have y0 := bt_lt s.data.toList k0
    have hne : ((digE s.data.toList k0 : Int) == (k0 : Int)) = false := by simp; omega
    generalize hE1 : numInt s.data.toList k0 = e1 at *
    generalize digE s.data.toList k0 = e0 at *
    generalize bt s.data.toList k0 = c at *
    clear hE1 hz hdg
    go_upto_if 21 with (go_at_call 66; refine (HD0.out _).mono ?_; rintro e w' ⟨rfl, rfl⟩)
    go_cut [5] (fun v wx => v = .int .i64 e1 ∧ w = wx)
    case first =>
      rcases HI.out with ⟨rfl, hkk⟩ | ⟨rfl, hkk⟩
      · have HKK := Lib.hid hkk
        clear HS hkk HI
        go_wp2_with fail
        go_meet
        exact ⟨by rw [HKK.out]; go_num, rfl⟩
      · have HKK := Lib.hid hkk
        clear HS hkk HI
        go_wp2_with fail
        go_meet
        exact ⟨by rw [HKK.out], rfl⟩
    case rest =>
    obtain ⟨rfl, rfl⟩ := hcut
    clear HI hx y0 hne hge hle hklt HD0 hb1
    obtain ⟨b2, hb2, HFr⟩ : ∃ b2, decide (bt s.data.toList e1 = (46 : UInt8).toNat) = b2 ∧ Hid ((b2 = false ∧ numFrac s.data.toList e1 = e1) ∨ (b2 = true ∧ e1 + 1 < digE s.data.toList (e1 + 1) ∧ numFrac s.data.toList e1 = digE s.data.toList (e1 + 1)) ∨
        (b2 = true ∧ ¬ e1 + 1 < digE s.data.toList (e1 + 1) ∧ numFrac s.data.toList e1 = e1)) := by
      unfold numFrac
      by_cases h1 : bt s.data.toList e1 = 46
      · refine ⟨true, decide_eq_true h1, ?_⟩
        by_cases h2 : e1 + 1 < digE s.data.toList (e1 + 1)
        · exact .inr (.inl ⟨rfl, h2, by rw [if_pos ⟨h1, h2⟩]⟩)
        · exact .inr (.inr ⟨rfl, h2, by rw [if_neg (fun h => h2 h.2)]⟩)
      · exact ⟨false, decide_eq_false h1, .inl ⟨rfl, by rw [if_neg (fun h => h1 h.1)]⟩⟩
    have HB2 := Lib.hid (fun w => HS.out e1 46 b2 w (by decide) hb2)
    clear hb2
    have hfl := HF.out.2
    rw [← HL.out] at hfl
    generalize numFrac s.data.toList e1 = e2 at *
    have HD1 := Lib.hid (fun w => HD.out (e1 + 1) w (by omega))
    rw [show ((e1 + 1 : Nat) : Int) = (e1 : Int) + 1 by omega] at HD1
    generalize digE s.data.toList (e1 + 1) = d at *
    go_wp2_with fail
    refine (HB2.out _).mono ?_
    rintro e w' ⟨rfl, rfl⟩
    rcases HFr.out with ⟨rfl, hkk⟩ | ⟨rfl, hd, hkk⟩ | ⟨rfl, hd, hkk⟩
    all_goals
      have HKK := Lib.hid hkk
      clear hkk HFr HB2
      go_upto_if 35 with (go_at_call 66; refine (HD1.out _).mono ?_; rintro e w' ⟨rfl, rfl⟩)
      go_cut [5] (fun v wx => v = .int .i64 e2 ∧ w = wx)
      case first =>
        go_wp2_with (go_at_call 66; refine (HD1.out _).mono ?_; rintro e w' ⟨rfl, rfl⟩)
        go_meet
        exact ⟨by rw [HKK.out], rfl⟩
      case rest =>
      obtain ⟨rfl, rfl⟩ := hcut
      clear HD1 HF hil HKK
      obtain ⟨f, hf⟩ : ∃ f, expStart s.data.toList (e2 + 1) = f := ⟨_, rfl⟩
      have HX : Hid (numExp s.data.toList e2 = if bt s.data.toList e2 = 101 ∨ bt s.data.toList e2 = 69 then (if f < digE s.data.toList f then digE s.data.toList f else e2) else e2) := by
        show _ = _; unfold numExp; rw [hf]
      obtain ⟨bp, bm, hbp, hbm, HFS⟩ : ∃ bp bm, decide (bt s.data.toList (e2 + 1) = (43 : UInt8).toNat) = bp ∧ decide (bt s.data.toList (e2 + 1) = (45 : UInt8).toNat) = bm ∧
          Hid ((bp = true ∧ f = e2 + 1 + 1) ∨ (bp = false ∧ bm = true ∧ f = e2 + 1 + 1) ∨ (bp = false ∧ bm = false ∧ f = e2 + 1)) := by
        unfold expStart at hf
        refine ⟨_, _, rfl, rfl, ?_⟩
        by_cases h1 : bt s.data.toList (e2 + 1) = 43
        · rw [if_pos (.inl h1)] at hf; exact .inl ⟨decide_eq_true h1, hf.symm⟩
        · by_cases h2 : bt s.data.toList (e2 + 1) = 45
          · rw [if_pos (.inr h2)] at hf; exact .inr (.inl ⟨decide_eq_false h1, decide_eq_true h2, hf.symm⟩)
          · rw [if_neg (fun h => by rcases h with h | h; exact h1 h; exact h2 h)] at hf; exact .inr (.inr ⟨decide_eq_false h1, decide_eq_false h2, hf.symm⟩)
      have hfb : f ≤ e2 + 2 ∧ e2 + 1 ≤ f := by rcases HFS.out with ⟨_, h⟩ | ⟨_, _, h⟩ | ⟨_, _, h⟩ <;> omega
      obtain ⟨hfb1, hfb2⟩ := hfb
      have G1 := Lib.hid (fun w => HS.out (e2 + 1) 43 bp w (by decide) hbp)
      have G2 := Lib.hid (fun w => HS.out (e2 + 1) 45 bm w (by decide) hbm)
      rw [show ((e2 + 1 : Nat) : Int) = (e2 : Int) + 1 by omega] at G1 G2
      obtain ⟨be, bE, hbe, hbE, HEE⟩ : ∃ be bE, decide (bt s.data.toList e2 = (101 : UInt8).toNat) = be ∧ decide (bt s.data.toList e2 = (69 : UInt8).toNat) = bE ∧
          Hid ((be = true ∧ (bt s.data.toList e2 = 101 ∨ bt s.data.toList e2 = 69)) ∨ (be = false ∧ bE = true ∧ (bt s.data.toList e2 = 101 ∨ bt s.data.toList e2 = 69)) ∨ (be = false ∧ bE = false ∧ ¬ (bt s.data.toList e2 = 101 ∨ bt s.data.toList e2 = 69))) := by
        refine ⟨_, _, rfl, rfl, ?_⟩
        by_cases h1 : bt s.data.toList e2 = 101
        · exact .inl ⟨decide_eq_true h1, .inl h1⟩
        · by_cases h2 : bt s.data.toList e2 = 69
          · exact .inr (.inl ⟨decide_eq_false h1, decide_eq_true h2, .inr h2⟩)
          · exact .inr (.inr ⟨decide_eq_false h1, decide_eq_false h2, fun h => by rcases h with h | h; exact h1 h; exact h2 h⟩)
      have E1 := Lib.hid (fun w => HS.out e2 101 be w (by decide) hbe)
      have E2 := Lib.hid (fun w => HS.out e2 69 bE w (by decide) hbE)
      have HD2 := Lib.hid (fun w => HD.out f w (by omega))
      clear hf hbp hbm hbe hbE HS HD
      rcases HEE.out with ⟨rfl, hee⟩ | ⟨rfl, rfl, hee⟩ | ⟨rfl, rfl, hee⟩
      iterate 2
        (rw [if_pos hee] at HX
         clear HEE hee
         generalize digE s.data.toList f = g at *
         by_cases hgl : f < g
         · rw [if_pos hgl] at HX
           rcases HFS.out with ⟨rfl, hff⟩ | ⟨rfl, rfl, hff⟩ | ⟨rfl, rfl, hff⟩
           all_goals
             have hfi : (f : Int) = _ := congrArg (fun n : Nat => (n : Int)) hff
             have hgi : (f : Int) < g := by omega
             push_cast at hfi
             rw [hfi] at HD2 hgi
             clear HFS hff hfi hgl hfb1 hfb2
             go_wp2_with (first | (go_at_call 66; refine (HD2.out _).mono ?_; rintro e w' ⟨rfl, rfl⟩) | (go_at_call 43; with_reducible refine (E1.out _).mono ?_; rintro e w' ⟨rfl, rfl⟩) | (go_at_call 43; with_reducible refine (E2.out _).mono ?_; rintro e w' ⟨rfl, rfl⟩) | (go_at_call 43; with_reducible refine (G1.out _).mono ?_; rintro e w' ⟨rfl, rfl⟩) | (go_at_call 43; with_reducible refine (G2.out _).mono ?_; rintro e w' ⟨rfl, rfl⟩))
             go_ret
             exact ⟨by rw [HN.out, HX.out]; rfl, rfl⟩
         · rw [if_neg hgl] at HX
           rcases HFS.out with ⟨rfl, hff⟩ | ⟨rfl, rfl, hff⟩ | ⟨rfl, rfl, hff⟩
           all_goals
             have hfi : (f : Int) = _ := congrArg (fun n : Nat => (n : Int)) hff
             have hgi : ¬ ((f : Int) < g) := by omega
             push_cast at hfi
             rw [hfi] at HD2 hgi
             clear HFS hff hfi hgl hfb1 hfb2
             go_wp2_with (first | (go_at_call 66; refine (HD2.out _).mono ?_; rintro e w' ⟨rfl, rfl⟩) | (go_at_call 43; with_reducible refine (E1.out _).mono ?_; rintro e w' ⟨rfl, rfl⟩) | (go_at_call 43; with_reducible refine (E2.out _).mono ?_; rintro e w' ⟨rfl, rfl⟩) | (go_at_call 43; with_reducible refine (G1.out _).mono ?_; rintro e w' ⟨rfl, rfl⟩) | (go_at_call 43; with_reducible refine (G2.out _).mono ?_; rintro e w' ⟨rfl, rfl⟩))
             go_ret
             exact ⟨by rw [HN.out, HX.out]; rfl, rfl⟩)
      rw [if_neg hee] at HX
      clear HEE hee HD2 G1 G2 HFS
      go_wp2_with (first | (go_at_call 43; with_reducible refine (E1.out _).mono ?_; rintro e w' ⟨rfl, rfl⟩) | (go_at_call 43; with_reducible refine (E2.out _).mono ?_; rintro e w' ⟨rfl, rfl⟩))
      go_ret
      exact ⟨by rw [HN.out, HX.out]; rfl, rfl⟩
end Go.Proofs.Ytjnmcadfaombjaa
