/- Walks: the program's letter, how, escape, One. -/
import Derived.Test.YtdmlciebkilmjaaQuoB
import Derived.Test.YtdmlciebkilmjaaUtfI
import Derived.Laws.RangeString
namespace Go.Proofs.Ytdmlciebkilmjaa
open Go.RowKit
set_option linter.unusedVariables false
set_option linter.unusedSimpArgs false
theorem letter_any (n : Nat) (w : World) (hn : n ≤ 1114111) :
    Calls Try.prog 43 #[.int .i32 n] w fun e w' => e = .returned (.int .u8 (letN n)) ∧ w = w' := by
  have hc : n = 34 ∨ n = 92 ∨ n = 8 ∨ n = 12 ∨ n = 10 ∨ n = 13 ∨ n = 9 ∨ (letN n = 0 ∧ ((n : Int) == 34) = false ∧ ((n : Int) == 92) = false ∧ ((n : Int) == 8) = false ∧ ((n : Int) == 12) = false ∧ ((n : Int) == 10) = false ∧ ((n : Int) == 13) = false ∧ ((n : Int) == 9) = false) := by
    by_cases h : n = 34 ∨ n = 92 ∨ n = 8 ∨ n = 12 ∨ n = 10 ∨ n = 13 ∨ n = 9
    · omega
    · have : letN n = 0 := by
        unfold letN
        rw [if_neg (by omega), if_neg (by omega), if_neg (by omega), if_neg (by omega), if_neg (by omega), if_neg (by omega)]
      refine Or.inr (Or.inr (Or.inr (Or.inr (Or.inr (Or.inr (Or.inr ⟨this, ?_, ?_, ?_, ?_, ?_, ?_, ?_⟩))))))
      all_goals (simp only [beq_eq_false_iff_ne]; omega)
  rcases hc with rfl | rfl | rfl | rfl | rfl | rfl | rfl | ⟨h0, h1, h2, h3, h4, h5, h6, h7⟩
  · show Calls Try.prog 43 #[.int .i32 34] w _
    go_enter Try.func43, Try.ntmps43
    go_wp2
    go_ret
    exact ⟨rfl, rfl⟩
  · show Calls Try.prog 43 #[.int .i32 92] w _
    go_enter Try.func43, Try.ntmps43
    go_wp2
    go_ret
    exact ⟨rfl, rfl⟩
  · show Calls Try.prog 43 #[.int .i32 8] w _
    go_enter Try.func43, Try.ntmps43
    go_wp2
    go_ret
    exact ⟨rfl, rfl⟩
  · show Calls Try.prog 43 #[.int .i32 12] w _
    go_enter Try.func43, Try.ntmps43
    go_wp2
    go_ret
    exact ⟨rfl, rfl⟩
  · show Calls Try.prog 43 #[.int .i32 10] w _
    go_enter Try.func43, Try.ntmps43
    go_wp2
    go_ret
    exact ⟨rfl, rfl⟩
  · show Calls Try.prog 43 #[.int .i32 13] w _
    go_enter Try.func43, Try.ntmps43
    go_wp2
    go_ret
    exact ⟨rfl, rfl⟩
  · show Calls Try.prog 43 #[.int .i32 9] w _
    go_enter Try.func43, Try.ntmps43
    go_wp2
    go_ret
    exact ⟨rfl, rfl⟩
  have H := Lib.hid h0
  clear h0
  go_enter Try.func43, Try.ntmps43
  go_wp2
  go_ret
  exact ⟨by rw [H.out]; rfl, rfl⟩
def howN (n : Nat) : Nat := if letN n ≠ 0 then 1 else if longN n then 2 else 0
set_option maxRecDepth 100000 in
set_option maxHeartbeats 1000000 in
theorem how_any (n : Nat) (w : World) (hn : n ≤ 1114111) :
    Calls Try.prog 41 #[.int .i32 n] w fun e w' => e = .returned (.int .i64 (howN n)) ∧ w = w' := by
  have HL := Lib.hid (fun w => letter_any n w hn)
  by_cases h0 : letN n = 0
  · rw [h0] at HL
    by_cases hl : longN n
    · have HV : Hid (howN n = 2) := by show _ = _; unfold howN; rw [if_neg (by simpa using h0), if_pos hl]
      clear h0
      unfold longN at hl
      have hl2 : (n < 32) ∨ (n = 38) ∨ (n = 60) ∨ (n = 62) ∨ (127 ≤ n ∧ n ≤ 159) ∨ n = 8232 ∨ n = 8233 := hl
      clear hl
      rcases hl2 with h | h | h | h | ⟨h, h'⟩ | h | h
      all_goals
        try subst h
        try have g1 : ((n : Int) == 38) = false := by simp; omega
        try have g2 : ((n : Int) == 60) = false := by simp; omega
        try have g3 : ((n : Int) == 62) = false := by simp; omega
        go_enter Try.func41, Try.ntmps41
        go_wp2_with (go_at_call 43; refine (HL.out _).mono ?_; rintro e w' ⟨rfl, rfl⟩)
        go_ret
        exact ⟨by rw [HV.out]; rfl, rfl⟩
    · have HV : Hid (howN n = 0) := by show _ = _; unfold howN; rw [if_neg (by simpa using h0), if_neg hl]
      clear h0
      unfold longN at hl
      have g0 : 32 ≤ n := by omega
      have g1 : ((n : Int) == 38) = false := by simp; omega
      have g2 : ((n : Int) == 60) = false := by simp; omega
      have g3 : ((n : Int) == 62) = false := by simp; omega
      have g4 : ((n : Int) == 8232) = false := by simp; omega
      have g5 : ((n : Int) == 8233) = false := by simp; omega
      have g6 : n < 127 ∨ 160 ≤ n := by omega
      clear hl
      rcases g6 with g6 | g6
      all_goals
        go_enter Try.func41, Try.ntmps41
        go_wp2_with (go_at_call 43; refine (HL.out _).mono ?_; rintro e w' ⟨rfl, rfl⟩)
        go_ret
        exact ⟨by rw [HV.out]; rfl, rfl⟩
  · have HV : Hid (howN n = 1) := by show _ = _; unfold howN; rw [if_pos h0]
    have h1 : 0 < letN n := by omega
    clear h0
    generalize letN n = c at *
    go_enter Try.func41, Try.ntmps41
    go_wp2_with (go_at_call 43; refine (HL.out _).mono ?_; rintro e w' ⟨rfl, rfl⟩)
    go_ret
    exact ⟨by rw [HV.out]; rfl, rfl⟩
def oneV (o : Option (Nat × Nat)) : Value := match o with | some p => .tuple #[.int .i32 p.1, .int .i64 p.2, .bool true] | none => .tuple #[.int .i32 0, .int .i64 0, .bool false]
theorem tL_letR {k : Nat} (h : k < 7) : letR (tL k) = tR k ∧ tR k ≠ 0 ∧ letN (tR k) = tL k ∧ tR k ≤ 92 := by
  rcases seven h with rfl | rfl | rfl | rfl | rfl | rfl | rfl <;> decide
theorem letR_none {c : Nat} (h47 : c ≠ 47) (h : ∀ k, k < 7 → tL k ≠ c) : letR c = 0 := by
  have h0 : 34 ≠ c := h 0 (by omega)
  have h1 : 92 ≠ c := h 1 (by omega)
  have h2 : 98 ≠ c := h 2 (by omega)
  have h3 : 102 ≠ c := h 3 (by omega)
  have h4 : 110 ≠ c := h 4 (by omega)
  have h5 : 114 ≠ c := h 5 (by omega)
  have h6 : 116 ≠ c := h 6 (by omega)
  unfold letR
  rw [if_neg (by omega), if_neg (by omega), if_neg (by omega), if_neg (by omega), if_neg (by omega), if_neg (by omega)]
def shortR : ByteArray := ⟨#[34, 92, 8, 12, 10, 13, 9]⟩
theorem next_short (w : World) (k : Nat) (hk : k < 7) (ty : TypeId) :
    (Instr.next (.pointer (some ⟨w.heap.size, 0, none⟩)) true ty).run Try.prog (w.iter shortR k) = .ok (.tuple #[.bool true, .int .i64 k, .int .i32 (tR k)]) (w.iter shortR (k + 1)) := by
  have hs : k < shortR.size := hk
  have e : (shortR[k]'hs).toNat = tR k := by rcases seven hk with rfl | rfl | rfl | rfl | rfl | rfl | rfl <;> rfl
  have := run_next_ascii (P := Try.prog) w shortR k ty hs (by rw [e]; have := (tL_letR hk).2.2.2; omega)
  rw [e] at this
  exact this
theorem next_short_end (w : World) (ty : TypeId) :
    (Instr.next (.pointer (some ⟨w.heap.size, 0, none⟩)) true ty).run Try.prog (w.iter shortR 7) = .ok (.tuple #[.bool false]) (w.iter shortR 7) :=
  run_next_end (P := Try.prog) w shortR 7 ty (by decide)
theorem escJ_letter {l : List UInt8} {k r : Nat} (h : letR (bt l (k + 1)) = r) (hr : r ≠ 0) : escJ (l.drop k) = some (r, 2) := by
  unfold escJ
  rw [bt_drop, h, if_pos hr]
theorem escJ_unit {l : List UInt8} {k : Nat} (h : letR (bt l (k + 1)) = 0) : escJ (l.drop k) = match unitAt l k with
    | none => none
    | some a => if 56320 ≤ a ∧ a < 57344 then none else if 55296 ≤ a ∧ a < 56320 then
        match unitAt l (k + 6) with
        | none => none
        | some b => if 56320 ≤ b ∧ b < 57344 then some (65536 + (a - 55296) * 1024 + (b - 56320), 12) else none
      else some (a, 6) := by
  unfold escJ
  rw [bt_drop, h, if_neg (by simp), unitAt_drop, unitAt_drop, Nat.add_zero]
  rfl
theorem unit_some (s : ByteArray) (k a : Nat) (w : World) (hs : s.size ≤ 1000000) (hk : k ≤ 2000000) (h : unitAt s.data.toList k = some a) :
    Calls Try.prog 73 #[.string s, .int .i64 k] w fun e w' => e = .returned (.tuple #[.int .i32 a, .bool true]) ∧ w = w' := by
  have := unit_any s k w hs hk
  rw [unitV_some h, h] at this
  exact this
theorem unitV_lt (l : List UInt8) (k : Nat) : unitV l k < 65536 := by
  unfold unitV
  split
  · have h1 : (byteAt l (k + 2)).getD 0 < 256 := by
      cases h : byteAt l (k + 2) with
      | none => simp
      | some v => exact byteAt_lt h
    have h2 : (byteAt l (k + 4)).getD 0 < 256 := by
      cases h : byteAt l (k + 4) with
      | none => simp
      | some v => exact byteAt_lt h
    omega
  · omega
theorem unit_none (s : ByteArray) (k : Nat) (w : World) (hs : s.size ≤ 1000000) (hk : k ≤ 2000000) (h : unitAt s.data.toList k = none) :
    Calls Try.prog 73 #[.string s, .int .i64 k] w fun e w' => e = .returned (.tuple #[.int .i32 (unitV s.data.toList k), .bool false]) ∧ w = w' := by
  have := unit_any s k w hs hk
  rw [h] at this
  exact this
set_option maxHeartbeats 1000000 in
theorem escape_end (s : ByteArray) (k : Nat) (w : World) (hs : s.size ≤ 1000000) (hk : k ≤ s.size) (hk1 : s.size ≤ k + 1) :
    Calls Try.prog 70 #[.string s, .int .i64 k] w fun e w' => e = .returned (oneV (escJ (s.data.toList.drop k))) ∧ Below w.heap.size w w' := by
  have hsl := sz_len s
  have hu : unitAt s.data.toList k = none := by
    cases h : unitAt s.data.toList k with
    | none => rfl
    | some v => have := unitAt_len h; omega
  have HV : Hid (escJ (s.data.toList.drop k) = none) := by
    show _ = _
    have hb : bt s.data.toList (k + 1) = 0 := by
      rcases Nat.eq_zero_or_pos (bt s.data.toList (k + 1)) with h | h
      · exact h
      · have := bt_pos_lt (l := s.data.toList) (k := k + 1) (by omega); omega
    rw [escJ_unit (by rw [hb]; rfl), hu]
  have HU := Lib.hid (fun w => unit_none s k w hs (by omega) hu)
  generalize unitV s.data.toList k = x at *
  clear hu hsl
  go_enter Try.func70, Try.ntmps70
  go_wp2_with (go_at_call 73; refine (HU.out _).mono ?_; rintro e w' ⟨rfl, rfl⟩)
  go_ret3
  exact ⟨by rw [HV.out]; rfl, Below.refl _ _⟩
theorem iter_drewN (w : World) (n : Nat) (s : ByteArray) (k : Nat) : (w.iter s k).drewN n = (w.drewN n).iter s k := rfl
theorem below_iter (w : World) (n : Nat) (s : ByteArray) (k : Nat) : Below w.heap.size w ((w.drewN n).iter s k) :=
  (below_drewN (Below.refl w.heap.size w) n).alloc (Nat.le_refl _) _
end Go.Proofs.Ytdmlciebkilmjaa
