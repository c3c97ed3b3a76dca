/- Walks: the program's Bytes; both Bytes give the rune's bytes. -/
import Derived.Test.YtlogjghbdnaedaaUtfC
import Derived.LoopN
import Derived.Handy
namespace Go.Proofs.Ytlogjghbdnaedaa
open Go.RowKit
set_option linter.unusedVariables false
set_option linter.unusedSimpArgs false
theorem i32_and_nat (a b : Nat) (ha : a < 2147483648) (hb : b < 2147483648) : bits .and .i32 (a : Int) (b : Int) = ((a &&& b : Nat) : Int) := by
  have hx : a &&& b < 2 ^ 31 := Nat.and_lt_two_pow _ (by omega)
  show IntKind.i32.wrap ((BitVec.ofInt 32 (a : Int) &&& BitVec.ofInt 32 (b : Int)).toNat : Int) = _
  rw [BitVec.toNat_and, ofInt_i32 a ha, ofInt_i32 b hb, IntKind.wrap_i32]
  omega
theorem and63_i32 (n : Int) (h0 : 0 ≤ n) (h1 : n ≤ 1114111) : bits .and .i32 n 63 = n % 64 := by
  obtain ⟨k, rfl⟩ := Int.eq_ofNat_of_zero_le h0
  have e := i32_and_nat k 63 (by omega) (by omega)
  have e2 : k &&& 63 = k % 64 := Nat.and_two_pow_sub_one_eq_mod k 6
  rw [e2] at e
  exact e
theorem or128 (x : Int) (h0 : 0 ≤ x) (h1 : x < 64) : bits .or .u8 128 x = 128 + x := by
  obtain ⟨k, rfl⟩ := Int.eq_ofNat_of_zero_le h0
  have : ∀ c : Fin 64, bits .or .u8 128 (c.val : Int) = 128 + (c.val : Int) := by decide +kernel
  exact this ⟨k, by omega⟩
theorem conv_arr (w : World) (a b c d : Int) (k : Nat) (hk : k ≤ 4) : (convert 93 9 (.slice (some ⟨w.heap.size, 0, none⟩) k 4)).run Try.prog (w.alloc (.cells #[.int .u8 a, .int .u8 b, .int .u8 c, .int .u8 d] 118)) =
      .ok (.string (strOfNums ([a, b, c, d].take k))) (w.alloc (.cells #[.int .u8 a, .int .u8 b, .int .u8 c, .int .u8 d] 118)) := by
  refine run_convert_bytes_arg _ 93 5 Try.underlying93 Try.underlying5 w.heap.size 0 k 4 ([a, b, c, d].take k) (by simp; omega) (fun i hi => ?_) 9 Try.underlying9
  have hb : (w.alloc (.cells #[.int .u8 a, .int .u8 b, .int .u8 c, .int .u8 d] 118)).heap[w.heap.size]? = some (.cells #[.int .u8 a, .int .u8 b, .int .u8 c, .int .u8 d] 118 (0, 0)) := heap_alloc_new w _
  rw [cell_of_row _ _ _ _ _ _ hb]
  have hi4 : i < 4 := by omega
  have : i = 0 ∨ i = 1 ∨ i = 2 ∨ i = 3 := by omega
  rcases this with rfl | rfl | rfl | rfl <;> simp [List.getD_eq_getElem?_getD, List.getElem?_take, hi]
theorem conv_arr2 (w : World) (a b c d : Int) : (convert 93 9 (.slice (some ⟨w.heap.size, 0, none⟩) 2 4)).run Try.prog (w.alloc (.cells #[.int .u8 a, .int .u8 b, .int .u8 c, .int .u8 d] 118)) =
      .ok (.string (strOfNums [a, b])) (w.alloc (.cells #[.int .u8 a, .int .u8 b, .int .u8 c, .int .u8 d] 118)) := conv_arr w a b c d 2 (by omega)
theorem conv_arr3 (w : World) (a b c d : Int) : (convert 93 9 (.slice (some ⟨w.heap.size, 0, none⟩) 3 4)).run Try.prog (w.alloc (.cells #[.int .u8 a, .int .u8 b, .int .u8 c, .int .u8 d] 118)) =
      .ok (.string (strOfNums [a, b, c])) (w.alloc (.cells #[.int .u8 a, .int .u8 b, .int .u8 c, .int .u8 d] 118)) := conv_arr w a b c d 3 (by omega)
theorem conv_arr4 (w : World) (a b c d : Int) : (convert 93 9 (.slice (some ⟨w.heap.size, 0, none⟩) 4 4)).run Try.prog (w.alloc (.cells #[.int .u8 a, .int .u8 b, .int .u8 c, .int .u8 d] 118)) =
      .ok (.string (strOfNums [a, b, c, d])) (w.alloc (.cells #[.int .u8 a, .int .u8 b, .int .u8 c, .int .u8 d] 118)) := conv_arr w a b c d 4 (by omega)
theorem conv_at1 (w : World) (o : Obj) (a : Int) : (convert 93 9 (.slice (some ⟨w.heap.size + 1, 0, none⟩) 1 1)).run Try.prog ((w.alloc o).alloc (.cells #[.int .u8 a] 5)) =
      .ok (.string (strOfNums [a])) ((w.alloc o).alloc (.cells #[.int .u8 a] 5)) := by
  have := conv_1 (w.alloc o) a
  rwa [World.size_alloc] at this
set_option maxRecDepth 100000 in
set_option maxHeartbeats 1000000 in
theorem pbytes_1 (n : Int) (w : World) (h0 : 0 ≤ n) (h1 : n < 128) (hA : (65536 ≤ n) = False) (hB : (2048 ≤ n) = False) :
    Calls Try.prog 71 #[.int .i32 n] w fun e w' => e = .returned (.string (strOfNums [n])) ∧ Below w.heap.size w w' := by
  have HR := Lib.hid (fun w => is_to n true w (decide_eq_true (by unfold isRune; omega)))

  have kc := conv_at1
  go_enter Try.func71, Try.ntmps71
  go_wp2_with fail
  refine (HR.out _).mono ?_
  rintro e w' ⟨rfl, rfl⟩
  go_wp2_with fail
  go_ret
  exact ⟨rfl, by go_grown⟩
set_option maxRecDepth 100000 in
set_option maxHeartbeats 1000000 in
theorem pbytes_2 (n : Int) (w : World) (h0 : 128 ≤ n) (h1 : n < 2048) (hA : (65536 ≤ n) = False) (hB : (2048 ≤ n) = False) (a0 : bits .and .i32 (n) 63 = (n) % 64) (o0 : bits .or .u8 128 ((n) % 64) = 128 + (n) % 64) :
    Calls Try.prog 71 #[.int .i32 n] w fun e w' => e = .returned (.string (strOfNums [192 + n / 64, 128 + n % 64])) ∧ Below w.heap.size w w' := by
  have HR := Lib.hid (fun w => is_to n true w (decide_eq_true (by unfold isRune; omega)))

  have kc := conv_arr2
  go_enter Try.func71, Try.ntmps71
  go_wp2_with fail
  refine (HR.out _).mono ?_
  rintro e w' ⟨rfl, rfl⟩
  go_wp2_with fail
  go_rounds 2
  go_ret
  exact ⟨rfl, by go_grown⟩
set_option maxRecDepth 100000 in
set_option maxHeartbeats 1000000 in
theorem pbytes_3 (n : Int) (w : World) (h0 : 0 ≤ n) (h1 : n / 64 / 64 < 16) (hA : (65536 ≤ n) = False) (hB : (2048 ≤ n) = True) (hC : (128 ≤ n) = True) (hr : Hid (isRune n)) (a0 : bits .and .i32 (n) 63 = (n) % 64) (o0 : bits .or .u8 128 ((n) % 64) = 128 + (n) % 64) (a1 : bits .and .i32 (n / 64) 63 = (n / 64) % 64) (o1 : bits .or .u8 128 ((n / 64) % 64) = 128 + (n / 64) % 64) :
    Calls Try.prog 71 #[.int .i32 n] w fun e w' => e = .returned (.string (strOfNums [224 + n / 64 / 64, 128 + n / 64 % 64, 128 + n % 64])) ∧ Below w.heap.size w w' := by
  have HR := Lib.hid (fun w => is_to n true w (decide_eq_true hr.out))

  have kc := conv_arr3
  go_enter Try.func71, Try.ntmps71
  go_wp2_with fail
  refine (HR.out _).mono ?_
  rintro e w' ⟨rfl, rfl⟩
  go_wp2_with fail
  go_rounds 3
  go_ret
  exact ⟨rfl, by go_grown⟩
set_option maxRecDepth 100000 in
set_option maxHeartbeats 1000000 in
theorem pbytes_4 (n : Int) (w : World) (h0 : 0 ≤ n) (h1 : n / 64 / 64 / 64 < 8) (hA : (65536 ≤ n) = True) (hB : (2048 ≤ n) = True) (hC : (128 ≤ n) = True) (hr : Hid (isRune n)) (a0 : bits .and .i32 (n) 63 = (n) % 64) (o0 : bits .or .u8 128 ((n) % 64) = 128 + (n) % 64) (a1 : bits .and .i32 (n / 64) 63 = (n / 64) % 64) (o1 : bits .or .u8 128 ((n / 64) % 64) = 128 + (n / 64) % 64) (a2 : bits .and .i32 (n / 64 / 64) 63 = (n / 64 / 64) % 64) (o2 : bits .or .u8 128 ((n / 64 / 64) % 64) = 128 + (n / 64 / 64) % 64) :
    Calls Try.prog 71 #[.int .i32 n] w fun e w' => e = .returned (.string (strOfNums [240 + n / 64 / 64 / 64, 128 + n / 64 / 64 % 64, 128 + n / 64 % 64, 128 + n % 64])) ∧ Below w.heap.size w w' := by
  have HR := Lib.hid (fun w => is_to n true w (decide_eq_true hr.out))

  have kc := conv_arr4
  go_enter Try.func71, Try.ntmps71
  go_wp2_with fail
  refine (HR.out _).mono ?_
  rintro e w' ⟨rfl, rfl⟩
  go_wp2_with fail
  go_rounds 4
  go_ret
  exact ⟨rfl, by go_grown⟩
set_option maxRecDepth 100000 in
set_option maxHeartbeats 1000000 in
theorem pbytes_bad (n : Int) (w : World) (h : ¬ isRune n) :
    Calls Try.prog 71 #[.int .i32 n] w fun e w' => e = .returned (.string (strOfNums [239, 191, 189])) ∧ Below w.heap.size w w' := by
  have HR := Lib.hid (fun w => is_to n false w (decide_eq_false h))
  clear h
  have kc := conv_arr3
  go_enter Try.func71, Try.ntmps71
  go_wp2_with fail
  refine (HR.out _).mono ?_
  rintro e w' ⟨rfl, rfl⟩
  go_wp2_with fail
  go_rounds 3
  go_ret
  exact ⟨rfl, by go_grown⟩
theorem enc_lt (n : Int) : isRune n → rune n = n.toNat := fun h => by unfold rune; rw [if_pos h]
theorem enc_bad (n : Int) (h : ¬ isRune n) : (encN (rune n)).map (fun k : Nat => (k : Int)) = [239, 191, 189] := by
  unfold rune; rw [if_neg h]; decide
theorem enc_1 (n : Int) (h0 : 0 ≤ n) (h1 : n < 128) : (encN (rune n)).map (fun k : Nat => (k : Int)) = [n] := by
  rw [enc_lt n (by unfold isRune; omega)]
  unfold encN; rw [if_pos (by omega)]; simp; omega
theorem enc_2 (n : Int) (h0 : 128 ≤ n) (h1 : n < 2048) : (encN (rune n)).map (fun k : Nat => (k : Int)) = [192 + n / 64, 128 + n % 64] := by
  rw [enc_lt n (by unfold isRune; omega)]
  unfold encN; rw [if_neg (by omega), if_pos (by omega)]; simp; omega
theorem enc_3 (n : Int) (h0 : 2048 ≤ n) (h1 : n < 65536) (hr : isRune n) : (encN (rune n)).map (fun k : Nat => (k : Int)) = [224 + n / 4096, 128 + n / 64 % 64, 128 + n % 64] := by
  rw [enc_lt n hr]
  unfold encN; rw [if_neg (by omega), if_neg (by omega), if_pos (by omega)]; simp; omega
theorem enc_4 (n : Int) (h0 : 65536 ≤ n) (hr : isRune n) : (encN (rune n)).map (fun k : Nat => (k : Int)) = [240 + n / 262144, 128 + n / 4096 % 64, 128 + n / 64 % 64, 128 + n % 64] := by
  rw [enc_lt n hr]
  unfold encN; rw [if_neg (by omega), if_neg (by omega), if_neg (by omega)]; simp; omega
/-- The reference's Bytes: the bytes of any number. -/
theorem rbytes_any (n : Int) (w : World) :
    Calls Try.prog 46 #[.int .i64 n] w fun e w' => e = .returned (.string (strOf (enc n))) ∧ Below w.heap.size w w' := by
  by_cases hr : isRune n
  · have hr' := hr
    unfold isRune at hr'
    by_cases c1 : n < 128
    · rw [← enc_eq n _ (enc_1 n (by omega) c1)]; exact rbytes_1 n w (by omega) c1
    by_cases c2 : n < 2048
    · rw [← enc_eq n _ (enc_2 n (by omega) c2)]; exact rbytes_2 n w (by omega) c2
    by_cases c3 : n < 65536
    · rw [← enc_eq n _ (enc_3 n (by omega) c3 hr)]; exact rbytes_3 n w (by omega) (eq_true c3) (Lib.hid hr) (by omega)
    · rw [← enc_eq n _ (enc_4 n (by omega) hr)]; exact rbytes_4 n w (by omega) (eq_false c3) (Lib.hid hr) (by omega)
  · rw [← enc_eq n _ (enc_bad n hr)]; exact rbytes_bad n w hr
/-- The program's Bytes: the bytes of any number. -/
theorem pbytes_any (n : Int) (w : World) :
    Calls Try.prog 71 #[.int .i32 n] w fun e w' => e = .returned (.string (strOf (enc n))) ∧ Below w.heap.size w w' := by
  by_cases hr : isRune n
  · have hr' := hr
    unfold isRune at hr'
    have q1 : n / 64 / 64 = n / 4096 := by omega
    have q2 : n / 64 / 64 / 64 = n / 262144 := by omega
    by_cases c1 : n < 128
    · rw [← enc_eq n _ (enc_1 n (by omega) c1)]; exact pbytes_1 n w (by omega) c1 (eq_false (by omega)) (eq_false (by omega))
    by_cases c2 : n < 2048
    · rw [← enc_eq n _ (enc_2 n (by omega) c2)]; exact pbytes_2 n w (by omega) c2 (eq_false (by omega)) (eq_false (by omega)) (and63_i32 _ (by omega) (by omega)) (or128 _ (by omega) (by omega))
    by_cases c3 : n < 65536
    · rw [← enc_eq n _ (enc_3 n (by omega) c3 hr), ← q1]
      exact pbytes_3 n w (by omega) (by omega) (eq_false (by omega)) (eq_true (by omega)) (eq_true (by omega)) (Lib.hid hr) (and63_i32 _ (by omega) (by omega)) (or128 _ (by omega) (by omega)) (and63_i32 _ (by omega) (by omega)) (or128 _ (by omega) (by omega))
    · rw [← enc_eq n _ (enc_4 n (by omega) hr), ← q1, ← q2]
      exact pbytes_4 n w (by omega) (by omega) (eq_true (by omega)) (eq_true (by omega)) (eq_true (by omega)) (Lib.hid hr) (and63_i32 _ (by omega) (by omega)) (or128 _ (by omega) (by omega)) (and63_i32 _ (by omega) (by omega)) (or128 _ (by omega) (by omega)) (and63_i32 _ (by omega) (by omega)) (or128 _ (by omega) (by omega))
  · rw [← enc_eq n _ (enc_bad n hr)]; exact pbytes_bad n w hr
end Go.Proofs.Ytlogjghbdnaedaa
