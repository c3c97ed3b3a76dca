/- Walks: the document's rune as it is written. -/
import Derived.Test.YtjnmcadfaombjaaQuoA
namespace Go.Proofs.Ytjnmcadfaombjaa
open Go.RowKit
set_option linter.unusedVariables false
set_option linter.unusedSimpArgs false
def shortC : Array Value := #[.int .i64 34, .int .i64 92, .int .i64 8, .int .i64 12, .int .i64 10, .int .i64 13, .int .i64 9]
def shortS : ByteArray := ⟨#[34, 92, 98, 102, 110, 114, 116]⟩
def tR (k : Nat) : Nat := [34, 92, 8, 12, 10, 13, 9].getD k 0
def tL (k : Nat) : Nat := [34, 92, 98, 102, 110, 114, 116].getD k 0
theorem rshort_any (w : World) :
    Calls Try.prog 71 #[] w fun e w' => e = .returned (.tuple #[.slice (some ⟨w.heap.size, 0, none⟩) 7 7, .string shortS]) ∧ w.alloc (.cells shortC 3) = w' := by
  unfold shortC shortS
  go_enter Try.func71, Try.ntmps71
  go_wp2
  go_ret2
  exact ⟨rfl, rfl⟩
theorem seven {k : Nat} (h : k < 7) : k = 0 ∨ k = 1 ∨ k = 2 ∨ k = 3 ∨ k = 4 ∨ k = 5 ∨ k = 6 := by omega
theorem short_cell {w : World} {g k : Nat} (h : Blk w g 3 shortC) (hk : k < 7) : w.cell? ⟨g, k, none⟩ = some (.int .i64 ((tR k : Nat) : Int)) := by
  rw [h.cell]
  rcases seven hk with rfl | rfl | rfl | rfl | rfl | rfl | rfl <;> rfl
theorem short_hit {n k : Nat} (hk : k < 7) (h : tR k = n) : letN n = tL k ∧ letN n ≠ 0 := by
  subst h
  rcases seven hk with rfl | rfl | rfl | rfl | rfl | rfl | rfl <;> decide
theorem short_none {n : Nat} (h : ∀ k, k < 7 → tR k ≠ n) : letN n = 0 := by
  have h0 : 34 ≠ n := h 0 (by omega)
  have h1 : 92 ≠ n := h 1 (by omega)
  have h2 : 8 ≠ n := h 2 (by omega)
  have h3 : 12 ≠ n := h 3 (by omega)
  have h4 : 10 ≠ n := h 4 (by omega)
  have h5 : 13 ≠ n := h 5 (by omega)
  have h6 : 9 ≠ n := h 6 (by omega)
  unfold letN
  rw [if_neg (by omega), if_neg (by omega), if_neg (by omega), if_neg (by omega), if_neg (by omega), if_neg (by omega)]
theorem short_letter {k : Nat} (hk : k < 7) : shortS.extract k (k + 1) = strOf [UInt8.ofNat (tL k)] := by
  rw [ext_one _ _ (by show k < 7; exact hk)]
  congr 1
  rcases seven hk with rfl | rfl | rfl | rfl | rfl | rfl | rfl <;> rfl
theorem bs_letter {k : Nat} (hk : k < 7) : ({ data := #[92] } : ByteArray) ++ shortS.extract k (k + 1) = strOf [92, UInt8.ofNat (tL k)] := by
  rw [short_letter hk]
  exact strOf_append [92] [UInt8.ofNat (tL k)]
set_option maxRecDepth 100000 in
set_option maxHeartbeats 2000000 in
theorem rwritten_any (n : Nat) (w : World) (hn : n ≤ 1114111) :
    Calls Try.prog 54 #[.int .i64 n] w fun e w' => e = .returned (.string (strOf (wrJ n))) ∧ Below w.heap.size w w' := by
  have HS := Lib.hid (rshort_any w)
  have HB := Lib.hid (fun w => rbytes_any n w)
  have HF := Lib.hid (fun w (h : n < 65536) => rfour_any n w h)
  have HL := Lib.hid (strOf_append [92, 117] (pairL (n / 256) ++ pairL (n % 256)))
  have hlen : (strOf (pairL (n / 256) ++ pairL (n % 256))).size = 4 := by rw [strOf_size]; rfl
  generalize hZ : strOf (pairL (n / 256) ++ pairL (n % 256)) = z at *
  clear hZ
  go_enter Try.func54, Try.ntmps54
  go_wp2_with fail
  refine HS.out.mono ?_
  rintro e w1 ⟨rfl, hw1⟩
  have hk1 : Blk w1 w.heap.size 3 shortC := by rw [← hw1]; exact Blk.new w _ _
  have hb1 : Below w.heap.size w w1 := by rw [← hw1]; exact (Below.refl _ _).alloc (Nat.le_refl _) _
  clear hw1
  have HK := Lib.hid hk1
  clear hk1
  unfold shortS
  go_wp2_with fail
  go_loop [5] (fun i => ∃ k : Nat, k ≤ 7 ∧ i = .int .i64 k ∧ ∀ j, j < k → tR j ≠ n) (fun i => 7 - (intOf i).toNat)
  case atStart => exact ⟨0, by omega, rfl, fun j h => by omega⟩
  case round =>
    obtain ⟨k, hk, rfl, hno⟩ := hrel
    have HN := Lib.hid hno
    clear hno
    by_cases hlt : k < 7
    · have hc := short_cell HK.out hlt
      by_cases ht : tR k = n
      · have hh := Lib.hid (short_hit hlt ht)
        have hl := bs_letter hlt
        unfold shortS at hl
        have hq : (((tR k : Nat) : Int) == (n : Int)) = true := by rw [ht]; simp
        have hsz : (({ data := #[92] } : ByteArray) ++ (({ data := #[34, 92, 98, 102, 110, 114, 116] } : ByteArray).extract k (k + 1))).size = 2 := by rw [hl, strOf_size]; rfl
        clear ht
        go_wp2_with fail
        go_ret
        exact ⟨by rw [wrJ_short hh.out.2, hh.out.1]; rfl, hb1⟩
      · have hq : (((tR k : Nat) : Int) == (n : Int)) = false := by simp; omega
        have HT := Lib.hid ht
        clear ht
        go_wp2_with fail
        go_round
        case rel => exact ⟨k + 1, by omega, by go_num, fun j hj => by rcases Nat.lt_succ_iff_lt_or_eq.1 hj with h | rfl; exact HN.out j h; exact HT.out⟩
        case measure => simp [intOf]; omega
    · obtain rfl : k = 7 := by omega
      have HZ := Lib.hid (short_none HN.out)
      by_cases hl : longN n
      · have HW := Lib.hid (wrJ_long HZ.out hl)
        have HF2 := Lib.hid (fun w => HF.out w (by have := longN_lt hl; omega))
        have HL2 : Hid (strOf (wrJ n) = ({ data := #[92, 117] } : ByteArray) ++ z) := by show _ = _; rw [HW.out]; exact HL.out.symm
        clear HF HL HW
        unfold longN at hl
        have hl2 : (n < 32) ∨ (n = 38) ∨ (n = 60) ∨ (n = 62) ∨ (127 ≤ n ∧ n ≤ 159) ∨ n = 8232 ∨ n = 8233 := hl
        clear hl
        rcases hl2 with h | h | h | h | ⟨h, h'⟩ | h | h
        all_goals
          try subst h
          try have g1 : ((n : Int) == 38) = false := by simp; omega
          try have g2 : ((n : Int) == 60) = false := by simp; omega
          try have g3 : ((n : Int) == 62) = false := by simp; omega
          go_wp2_with (go_at_call 72; refine (HF2.out _).mono ?_; rintro e w2 ⟨rfl, b2⟩)
          go_ret
          exact ⟨by rw [HL2.out]; rfl, hb1.trans (b2.mono hb1.size)⟩
      · have HW := Lib.hid (wrJ_self HZ.out hl)
        unfold longN at hl
        have g0 : 32 ≤ n := by omega
        have g1 : ((n : Int) == 38) = false := by simp; omega
        have g2 : ((n : Int) == 60) = false := by simp; omega
        have g3 : ((n : Int) == 62) = false := by simp; omega
        have g4 : ((n : Int) == 8232) = false := by simp; omega
        have g5 : ((n : Int) == 8233) = false := by simp; omega
        have g6 : n < 127 ∨ 159 < n := by omega
        clear hl
        rcases g6 with g6 | g6
        all_goals
          go_wp2_with (go_at_call 65; refine (HB.out _).mono ?_; rintro e w2 ⟨rfl, b2⟩)
          go_ret
          exact ⟨by rw [HW.out]; rfl, hb1.trans (b2.mono hb1.size)⟩
end Go.Proofs.Ytjnmcadfaombjaa
