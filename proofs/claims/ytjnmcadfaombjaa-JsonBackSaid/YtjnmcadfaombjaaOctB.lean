/- Walks: the byte of two digits (both layers); a text at a place. -/
import Derived.Test.YtjnmcadfaombjaaOctA
import Derived.Test.YtjnmcadfaombjaaUtfF
import Derived.Test.YtjnmcadfaombjaaUtfG
namespace Go.Proofs.Ytjnmcadfaombjaa
open Go.RowKit
set_option linter.unusedVariables false
set_option linter.unusedSimpArgs false
def byteV (o : Option Nat) : Value := match o with | some v => .tuple #[.int .u8 v, .bool true] | none => .tuple #[.int .u8 0, .bool false]
theorem rdig_to (c d : Nat) (w : World) (hc : c < 256) (h : wth c = d) :
    Calls Try.prog 84 #[.int .u8 c] w fun e w' => e = .returned (.int .i64 d) ∧ w = w' := by
  rw [← h]; exact rdig_any c w hc
theorem wth_le (c : Nat) : wth c ≤ 16 := by unfold wth; split <;> (try split) <;> (try split) <;> omega
set_option maxHeartbeats 1000000 in
theorem rbyte_in (s : ByteArray) (k : Nat) (w : World) (hs : s.size ≤ 9223372036854775807) (hk : k + 2 ≤ s.size) :
    Calls Try.prog 83 #[.string s, .int .i64 k] w fun e w' => e = .returned (byteV (byteAt s.data.toList k)) ∧ ∃ n, w' = w.drewN n := by
  have hl := sz_len s
  have HV : Hid (byteAt s.data.toList k = if wth (bt s.data.toList k) < 16 ∧ wth (bt s.data.toList (k + 1)) < 16 then some (16 * wth (bt s.data.toList k) + wth (bt s.data.toList (k + 1))) else none) := by
    show _ = _
    unfold byteAt
    have : k + 2 ≤ s.data.toList.length := by omega
    simp only [this, true_and]
  have hk0 : k < s.size := by omega
  have hk1 : k + 1 < s.size := by omega
  have x0 := bt_byte s k hk0
  have x1 := bt_byte s (k + 1) hk1
  have y0 := bt_lt s.data.toList k
  have y1 := bt_lt s.data.toList (k + 1)
  have z0 := wth_le (bt s.data.toList k)
  have z1 := wth_le (bt s.data.toList (k + 1))
  generalize bt s.data.toList k = c at *
  generalize bt s.data.toList (k + 1) = d at *
  have HC := Lib.hid (fun w => rdig_any c w y0)
  have HD := Lib.hid (fun w => rdig_any d w y1)
  generalize wth c = p at *
  generalize wth d = q at *
  clear hl
  go_enter Try.func83, Try.ntmps83
  go_wp2_with fail
  have e1 : IntKind.i64.wrap ((k : Int) + 1) = (k : Int) + 1 := IntWalk.i64_in _ (by omega)
  have e2 : 0 ≤ (k : Int) + 1 := by omega
  have e3 : ((k : Int) + 1).toNat = k + 1 := by omega
  go_quiet ((go_at_call 84; first | with_reducible exact quiet_left (HC.out _) | with_reducible exact quiet_left (HD.out _)))
  clear e1 e2 e3
  go_wp2_with fail
  all_goals
    go_ret2
    refine ⟨?_, _, rfl⟩
    rw [HV.out]
    first
      | (rw [if_neg (by omega)]; rfl)
      | (rw [if_pos ⟨by omega, by omega⟩]; show Ending.returned (.tuple #[.int .u8 (16 * (p : Int) + q), .bool true]) = .returned (.tuple #[.int .u8 ((16 * p + q : Nat) : Int), .bool true]); rw [show ((16 * p + q : Nat) : Int) = 16 * (p : Int) + q by omega])
theorem byte_out {s : ByteArray} {k : Nat} (hk : s.size < k + 2) : byteAt s.data.toList k = none := by
  unfold byteAt; rw [if_neg]; rw [← sz_len]; omega
theorem rbyte_out (s : ByteArray) (k : Nat) (w : World) (hs : s.size ≤ 9223372036854775807) (hk : s.size < k + 2) :
    Calls Try.prog 83 #[.string s, .int .i64 k] w fun e w' => e = .returned (byteV (byteAt s.data.toList k)) ∧ ∃ n, w' = w.drewN n := by
  have HV := Lib.hid (byte_out hk)
  have h2 : (s.size : Int) - 2 < k := by omega
  go_enter Try.func83, Try.ntmps83
  go_wp2
  go_ret2
  exact ⟨by rw [HV.out]; rfl, 0, rfl⟩
theorem rbyte_any (s : ByteArray) (k : Nat) (w : World) (hs : s.size ≤ 9223372036854775807) :
    Calls Try.prog 83 #[.string s, .int .i64 k] w fun e w' => e = .returned (byteV (byteAt s.data.toList k)) ∧ ∃ n, w' = w.drewN n := by
  by_cases h : k + 2 ≤ s.size
  · exact rbyte_in s k w hs h
  · exact rbyte_out s k w hs (by omega)
theorem nib (p q : Nat) (hp : p < 16) (hq : q < 16) : bits BinOp.or IntKind.u8 (((p : Int) * 16) % 256) (q : Int) = ((16 * p + q : Nat) : Int) := by
  have : ∀ p q : Fin 16, bits BinOp.or IntKind.u8 (((p.val : Int) * 16) % 256) (q.val : Int) = ((16 * p.val + q.val : Nat) : Int) := by decide +kernel
  exact this ⟨p, hp⟩ ⟨q, hq⟩
theorem nib2 (p q : Nat) (hp : p < 16) (hq : q < 16) : bits BinOp.or IntKind.u8 ((p : Int) * 16) (q : Int) = 16 * (p : Int) + q := by
  have : ∀ p q : Fin 16, bits BinOp.or IntKind.u8 ((p.val : Int) * 16) (q.val : Int) = 16 * (p.val : Int) + q.val := by decide +kernel
  exact this ⟨p, hp⟩ ⟨q, hq⟩
/-- Does a text stand at a place? -/
def beginsL (l p : List UInt8) (k : Nat) : Bool := decide (k ≤ l.length) && decide ((l.drop k).take p.length = p)
theorem hasPrefix_iff (l p : List UInt8) : Lib.hasPrefix l p = decide (l.take p.length = p) := by
  unfold Lib.hasPrefix
  rw [Bool.eq_iff_iff, List.isPrefixOf_iff_prefix, decide_eq_true_iff, List.prefix_iff_eq_take]
  exact eq_comm
theorem rbegins_any (s p : ByteArray) (k : Nat) (w : World) (hs : s.size ≤ 9223372036854775807) (hp : p.size ≤ 9223372036854775807) :
    Calls Try.prog 43 #[.string s, .string p, .int .i64 k] w fun e w' => e = .returned (.bool (beginsL s.data.toList p.data.toList k)) ∧ w = w' := by
  have hl := Lib.hid (sz_len s)
  have hq := Lib.hid (sz_len p)
  by_cases hk : k ≤ s.size ∧ (p.size : Int) ≤ (s.size : Int) - k
  · obtain ⟨hk, hk2⟩ := hk
    have he : ((s.extract k (k + p.size)).toList == p.toList) = beginsL s.data.toList p.data.toList k := by
      rw [Bool.eq_iff_iff, beq_str, ext_take _ _ _ (by omega)]
      unfold beginsL
      have := hl.out
      rw [decide_eq_true (by omega : k ≤ s.data.toList.length), Bool.true_and, decide_eq_true_iff, hq.out]
    generalize beginsL s.data.toList p.data.toList k = v at *
    go_enter Try.func43, Try.ntmps43
    go_wp2
    go_ret
    exact ⟨rfl, rfl⟩
  · have HE : Hid (beginsL s.data.toList p.data.toList k = false) := by
      show _ = _
      unfold beginsL
      have h1 := hl.out
      have h2 := hq.out
      by_cases h3 : k ≤ s.size
      · rw [decide_eq_false (p := List.take _ _ = _), Bool.and_false]
        intro h
        have := congrArg List.length h
        rw [List.length_take, List.length_drop] at this
        omega
      · rw [decide_eq_false (by omega : ¬ k ≤ s.data.toList.length), Bool.false_and]
    by_cases h3 : k ≤ s.size
    · have h4 : ¬ ((p.size : Int) ≤ (s.size : Int) - k) := fun h => hk ⟨h3, h⟩
      clear hk
      go_enter Try.func43, Try.ntmps43
      go_wp2
      go_ret
      exact ⟨by rw [HE.out]; rfl, rfl⟩
    · clear hk
      go_enter Try.func43, Try.ntmps43
      go_wp2
      go_ret
      exact ⟨by rw [HE.out]; rfl, rfl⟩
end Go.Proofs.Ytjnmcadfaombjaa
