/- Walks: the document's Blank and str (chapter 10). -/
import Derived.Test.YtjnmcadfaombjaaQuoF
import Derived.Test.YtjnmcadfaombjaaJsSpec
namespace Go.Proofs.Ytjnmcadfaombjaa
open Go.RowKit
set_option linter.unusedVariables false
set_option linter.unusedSimpArgs false
theorem rblank_any (c : Nat) (w : World) (hc : c < 256) :
    Calls Try.prog 11 #[.int .u8 c] w fun e w' => e = .returned (.bool (decide (blankK c))) ∧ w = w' := by
  by_cases h : blankK c
  · rw [decide_eq_true h]
    unfold blankK at h
    rcases h with rfl | rfl | rfl | rfl
    all_goals
      go_enter Try.func11, Try.ntmps11
      go_wp2
      go_ret
      exact ⟨rfl, rfl⟩
  · rw [decide_eq_false h]
    unfold blankK at h
    have g1 : ((c : Int) == 32) = false := by simp; omega
    have g2 : ((c : Int) == 9) = false := by simp; omega
    have g3 : ((c : Int) == 10) = false := by simp; omega
    have g4 : ((c : Int) == 13) = false := by simp; omega
    clear h
    go_enter Try.func11, Try.ntmps11
    go_wp2
    go_ret
    exact ⟨rfl, rfl⟩
theorem strJ_at {s : ByteArray} {k : Nat} (hk : k < s.size) : strJ (s.data.toList.drop k) = if bt s.data.toList k = 34 then some ([], 1) else
    match oneJ (s.data.toList.drop k) with
    | none => none
    | some (r, n) => (strJ (s.data.toList.drop (k + n))).map fun p => (enc r ++ p.1, n + p.2) := by
  rw [strJ_step (drop_ne (by rw [← sz_len]; exact hk)), bt_drop, Nat.add_zero]
  simp only [List.drop_drop]
  rfl
/-- What 'str' says. -/
def strV (k : Nat) (o : Option (List UInt8 × Nat)) : Value := match o with
  | some p => .tuple #[.string (strOf p.1), .int .i64 ((k + p.2 : Nat) : Int)]
  | none => .tuple #[.string ⟨#[]⟩, .int .i64 (-1)]
set_option maxRecDepth 100000 in
set_option maxHeartbeats 2000000 in
theorem rstr_any (s : ByteArray) (k : Nat) (w : World) (hs : s.size ≤ 1000000) (hk : k < s.size) :
    Calls Try.prog 42 #[.string s, .int .i64 k] w fun e w' => e = .returned (strV (k + 1) (strJ (s.data.toList.drop (k + 1)))) ∧ Below w.heap.size w w' := by
  have hsl := Lib.hid (sz_len s)
  go_enter Try.func42, Try.ntmps42
  go_wp2_with fail
  go_loopw [6, 7] (fun o z wr => ∃ (j : Nat) (a : List UInt8), z = .int .i64 j ∧ o = .string (strOf a) ∧ k + 1 ≤ j ∧ j ≤ s.size ∧ a.length ≤ 4 * j ∧ strJ (s.data.toList.drop (k + 1)) = (strJ (s.data.toList.drop j)).map (fun p => (a ++ p.1, j - (k + 1) + p.2)) ∧ Below w.heap.size w wr) (fun _ z _ => s.size - (intOf z).toNat)
  case atStart => exact ⟨k + 1, [], by go_num, rfl, Nat.le_refl _, hk, by simp, by simp, Below.refl _ _⟩
  case round =>
    obtain ⟨j, a, rfl, rfl, hkj, hj, hal, hr, hb⟩ := hrel
    have HG := Lib.hid hr
    clear hr
    have hz := strOf_size a
    by_cases hlt : j < s.size
    · have hx := bt_byte s j hlt
      have y0 := bt_lt s.data.toList j
      have hst := strJ_at hlt
      by_cases h34 : bt s.data.toList j = 34
      · rw [if_pos h34] at hst
        have HV : Hid (strJ (s.data.toList.drop (k + 1)) = some (a, j - (k + 1) + 1)) := by show _ = _; rw [HG.out, hst]; simp
        rw [h34] at hx
        clear hst h34 y0
        go_wp2_with fail
        go_ret2
        exact ⟨by rw [HV.out]; show _ = Ending.returned (.tuple #[.string (strOf a), .int .i64 ((k + 1 + (j - (k + 1) + 1) : Nat) : Int)]); rw [show ((k + 1 + (j - (k + 1) + 1) : Nat) : Int) = (j : Int) + 1 by omega]; rfl, hb⟩
      · rw [if_neg h34] at hst
        have hq : ((bt s.data.toList j : Int) == 34) = false := by simp; omega
        generalize bt s.data.toList j = c at *
        clear h34
        cases ho : oneJ (s.data.toList.drop j) with
        | none =>
          rw [ho] at hst
          have HV : Hid (strJ (s.data.toList.drop (k + 1)) = none) := by show _ = _; rw [HG.out, hst]; rfl
          have HO : Hid (∀ w, Calls Try.prog 64 #[.string s, .int .i64 j] w fun e w' => e = .returned (.tuple #[.int .i64 0, .int .i64 0, .bool false]) ∧ Below w.heap.size w w') := fun w => rone_at s j none w hs ho
          clear ho hst
          go_wp2_with fail
          refine (HO.out _).mono ?_
          rintro e w2 ⟨rfl, b2⟩
          go_wp2_with fail
          go_ret2
          exact ⟨by rw [HV.out]; rfl, hb.trans (b2.mono hb.size)⟩
        | some p =>
          obtain ⟨r, n⟩ := p
          rw [ho] at hst
          dsimp only at hst
          obtain ⟨hr, hn1, hn12, hnl⟩ := oneJ_bound ho
          rw [List.length_drop, ← hsl.out] at hnl
          have HV : Hid (strJ (s.data.toList.drop (k + 1)) = (strJ (s.data.toList.drop (j + n))).map (fun p => ((a ++ enc r) ++ p.1, j + n - (k + 1) + p.2))) := by
            show _ = _
            rw [HG.out, hst]
            cases strJ (s.data.toList.drop (j + n)) with
            | none => rfl
            | some q => simp; omega
          have HO : Hid (∀ w, Calls Try.prog 64 #[.string s, .int .i64 j] w fun e w' => e = .returned (.tuple #[.int .i64 r, .int .i64 n, .bool true]) ∧ Below w.heap.size w w') := fun w => rone_at s j _ w hs ho
          have hel := enc_length (r : Int)
          have hez := strOf_size (enc (r : Int))
          have HRB := Lib.hid (fun w => rbytes_any r w)
          clear ho hst hr
          go_wp2_with fail
          refine (HO.out _).mono ?_
          rintro e w2 ⟨rfl, b2⟩
          go_wp2_with fail
          refine (HRB.out _).mono ?_
          rintro e w3 ⟨rfl, b3⟩
          go_wp2_with fail
          go_roundw
          case rel => exact ⟨j + n, a ++ enc r, by go_num, congrArg Value.string (strOf_append _ _), by omega, by omega, by rw [List.length_append]; omega, HV.out, (hb.trans (b2.mono hb.size)).trans (b3.mono (hb.trans (b2.mono hb.size)).size)⟩
          case measure => simp [intOf]; omega
    · have HE : Hid (strJ (s.data.toList.drop (k + 1)) = none) := by show _ = _; rw [HG.out, drop_end (by omega)]; rfl
      go_wp2_with fail
      go_ret2
      exact ⟨by rw [HE.out]; rfl, hb⟩
end Go.Proofs.Ytjnmcadfaombjaa
