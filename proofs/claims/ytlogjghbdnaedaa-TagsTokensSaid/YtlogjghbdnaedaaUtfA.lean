/- Walks: utf's small functions, and Next. -/
import Derived.Test.YtlogjghbdnaedaaMem
import Derived.Test.YtlogjghbdnaedaaUtfSpec
import Derived.Laws.BitsAllLaws
import Derived.Laws.BitsLemmas
namespace Go.Proofs.Ytlogjghbdnaedaa
open Go.RowKit
set_option linter.unusedVariables false
set_option linter.unusedSimpArgs false
theorem and_c0 (c : Nat) (h : c < 256) : (bits BinOp.and IntKind.u8 (c : Int) 192 != 128) = !decide (cont c) := by
  have : ∀ c : Fin 256, (bits BinOp.and IntKind.u8 (c.val : Int) 192 != 128) = !decide (cont c.val) := by decide +kernel
  exact this ⟨c, h⟩
theorem and_63 (c : Nat) (h : c < 256) : bits BinOp.and IntKind.u8 (c : Int) 63 = ((c % 64 : Nat) : Int) := by
  have : ∀ c : Fin 256, bits BinOp.and IntKind.u8 (c.val : Int) 63 = ((c.val % 64 : Nat) : Int) := by decide +kernel
  exact this ⟨c, h⟩
theorem and_31 (c : Nat) (h : c < 256) : bits BinOp.and IntKind.u8 (c : Int) 31 = ((c % 32 : Nat) : Int) := by
  have : ∀ c : Fin 256, bits BinOp.and IntKind.u8 (c.val : Int) 31 = ((c.val % 32 : Nat) : Int) := by decide +kernel
  exact this ⟨c, h⟩
theorem and_15 (c : Nat) (h : c < 256) : bits BinOp.and IntKind.u8 (c : Int) 15 = ((c % 16 : Nat) : Int) := by
  have : ∀ c : Fin 256, bits BinOp.and IntKind.u8 (c.val : Int) 15 = ((c.val % 16 : Nat) : Int) := by decide +kernel
  exact this ⟨c, h⟩
theorem and_7 (c : Nat) (h : c < 256) : bits BinOp.and IntKind.u8 (c : Int) 7 = ((c % 8 : Nat) : Int) := by
  have : ∀ c : Fin 256, bits BinOp.and IntKind.u8 (c.val : Int) 7 = ((c.val % 8 : Nat) : Int) := by decide +kernel
  exact this ⟨c, h⟩
theorem ofInt_i32 (a : Nat) (ha : a < 2147483648) : (BitVec.ofInt 32 (a : Int)).toNat = a := by
  rw [BitVec.ofInt_natCast, BitVec.toNat_ofNat]; exact Nat.mod_eq_of_lt (by omega)
theorem i32_or_nat (a b : Nat) (ha : a < 2147483648) (hb : b < 2147483648) : bits .or .i32 (a : Int) (b : Int) = ((a ||| b : Nat) : Int) := by
  have hx : a ||| b < 2 ^ 31 := Nat.or_lt_two_pow (by omega) (by omega)
  show IntKind.i32.wrap ((BitVec.ofInt 32 (a : Int) ||| BitVec.ofInt 32 (b : Int)).toNat : Int) = _
  rw [BitVec.toNat_or, ofInt_i32 a ha, ofInt_i32 b hb, IntKind.wrap_i32]
  omega
theorem or_64 (a b : Nat) (hb : b < 64) : a * 64 ||| b = a * 64 + b := by
  have h := Nat.two_pow_add_eq_or_of_lt (i := 6) (b := b) (by simpa using hb) a
  have e : (2 : Nat) ^ 6 = 64 := rfl
  rw [e] at h
  rw [Nat.mul_comm a 64]; exact h.symm
theorem tail_step (x c : Nat) (hx : x < 2097152) (hc : c < 256) :
    bits BinOp.or IntKind.i32 (wrap32 ((x : Int) * 64)) (wrap32 (bits BinOp.and IntKind.u8 (c : Int) 63)) = ((x * 64 + c % 64 : Nat) : Int) := by
  rw [and_63 c hc]
  have e1 : wrap32 ((x : Int) * 64) = ((x * 64 : Nat) : Int) := by unfold wrap32; omega
  have e2 : wrap32 ((c % 64 : Nat) : Int) = ((c % 64 : Nat) : Int) := by unfold wrap32; omega
  rw [e1, e2, i32_or_nat _ _ (by omega) (by omega), or_64 _ _ (by omega)]
/-- What the program's tail returns. -/
def tailV (o : Option Nat) : Value := match o with | some v => .tuple #[.int .i32 v, .bool true] | none => .tuple #[.int .i32 0, .bool false]
theorem tl_short : ∀ (m r : Nat) (l : List UInt8), l.length < m → tl m r l = none
  | 0, _, _, h => by simp at h
  | _ + 1, _, [], _ => rfl
  | m + 1, r, b :: t, h => by
    unfold tl
    split
    · exact tl_short m _ t (by simpa using h)
    · rfl
theorem tl_step {m k r x : Nat} {l : List UInt8} (hk : k < m) (hl : k < l.length) (h : tl m r l = tl (m - k) x (l.drop k)) :
    (cont (bt l k) → tl m r l = tl (m - (k + 1)) (x * 64 + bt l k % 64) (l.drop (k + 1))) ∧ (¬ cont (bt l k) → tl m r l = none) := by
  rw [h, List.drop_eq_getElem_cons hl]
  obtain ⟨j, hj⟩ : ∃ j, m - k = j + 1 := ⟨m - k - 1, by omega⟩
  have hj' : m - (k + 1) = j := by omega
  rw [hj, hj', ← bt_get hl]
  exact ⟨fun hc => by rw [tl, if_pos hc], fun hc => by rw [tl, if_neg hc]⟩
theorem sz_len (t : ByteArray) : t.size = t.data.toList.length := Array.length_toList.symm
theorem bt_byte (t : ByteArray) (k : Nat) (h : k < t.size) : (t[k]).toNat = bt t.data.toList k := by
  have h2 : k < t.data.toList.length := by rw [← sz_len]; exact h
  rw [← bt_get h2]; rfl
set_option maxHeartbeats 1000000 in
theorem tail_any (t : ByteArray) (r many : Nat) (w : World) (hs : t.size ≤ maxLen) (hr : r < 32) (hm : many ≤ 3) :
    Calls Try.prog 62 #[.string t, .int .i32 r, .int .i64 many] w fun e w' => e = .returned (tailV (tl many r t.data.toList)) ∧ w = w' := by
  unfold maxLen at hs
  have hsl := sz_len t
  by_cases hl : t.size < many
  · have hn := Lib.hid (tl_short many r t.data.toList (by omega))
    clear hsl
    go_enter Try.func62, Try.ntmps62
    go_wp2
    go_ret2
    exact ⟨by rw [hn.out]; rfl, rfl⟩
  · have Hsl := Lib.hid hsl
    clear hsl
    go_enter Try.func62, Try.ntmps62
    go_wp2
    go_loop [1, 14] (fun v i => ∃ k x : Nat, i = .int .i64 k ∧ k ≤ many ∧ v = .int .i32 x ∧ x < 32 * 64 ^ k ∧ tl many r t.data.toList = tl (many - k) x (t.data.toList.drop k)) (fun _ i => many - (intOf i).toNat)
    case atStart => exact ⟨0, r, rfl, Nat.zero_le _, rfl, by omega, rfl⟩
    case round =>
      obtain ⟨k, x, rfl, hk, rfl, hx, ht⟩ := hrel
      by_cases hlt : k < many
      · have hks : k < t.size := by omega
        obtain ⟨st1, st2⟩ := tl_step hlt (by have := Hsl.out; omega) ht
        have hx3 : 64 ^ k ≤ 4096 := Nat.le_trans (Nat.pow_le_pow_right (by omega) (by omega : k ≤ 2)) (by decide)
        have hx4 : x < 131072 := by omega
        have HX : Hid (x * 64 + bt t.data.toList k % 64 < 32 * 64 ^ (k + 1)) := by rw [Nat.pow_succ]; show _ < _; omega
        clear hx3
        have hb := bt_byte t k hks
        have hb256 := bt_lt t.data.toList k
        by_cases hc : cont (bt t.data.toList k)
        · have HT := Lib.hid (st1 hc)
          have h1 := and_c0 _ hb256
          rw [decide_eq_true hc] at h1
          clear ht st1 st2 hc
          generalize bt t.data.toList k = c at *
          go_wp2
          go_round
          case rel => exact ⟨k + 1, x * 64 + c % 64, by go_num, by omega, by go_num, HX.out, HT.out⟩
          case measure => simp [intOf]; omega
        · have HT := Lib.hid (st2 hc)
          have h1 := and_c0 _ hb256
          rw [decide_eq_false hc] at h1
          clear ht st1 st2 hc
          generalize bt t.data.toList k = c at *
          go_wp2
          go_ret2
          exact ⟨by rw [HT.out]; rfl, rfl⟩
      · obtain rfl : k = many := by omega
        have HT : Hid (tl k r t.data.toList = some x) := by show _ = _; rw [ht]; simp [tl]
        clear ht
        go_wp2
        go_ret2
        exact ⟨by rw [HT.out]; rfl, rfl⟩
theorem is_any (n : Int) (w : World) :
    Calls Try.prog 63 #[.int .i32 n] w fun e w' => e = .returned (.bool (decide (isRune n))) ∧ w = w' := by
  have key : ∀ b : Bool, ((b = true) ↔ isRune n) → b = decide (isRune n) := fun b h => by
    by_cases hr : isRune n
    · rw [decide_eq_true hr]; exact h.2 hr
    · rw [decide_eq_false hr]; cases b
      · rfl
      · exact absurd (h.1 rfl) hr
  have K := Lib.hid key
  clear key
  go_enter Try.func63, Try.ntmps63
  go_wp2
  all_goals
    go_ret
    exact ⟨congrArg (fun b => Ending.returned (.bool b)) (K.out _ (by unfold isRune; simp; omega)), rfl⟩
end Go.Proofs.Ytlogjghbdnaedaa
