/- Walks: the program's Bytes; both Bytes give the rune's bytes. -/
import Derived.Test.YtmfldffbafamnaaUtfC
import Derived.LoopN
import Derived.Handy
namespace Go.Proofs.Ytmfldffbafamnaa
open Go.RowKit
set_option linter.unusedVariables false
set_option linter.unusedSimpArgs false
theorem i32_and_nat (a b : Nat) (ha : a < 2147483648) (hb : b < 2147483648) : bits .and .i32 (a : Int) (b : Int) = ((a &&& b : Nat) : Int) := by
  have hx : a &&& b < 2 ^ 31 := Nat.and_lt_two_pow _ (by omega)
  show IntKind.i32.wrap ((BitVec.ofInt 32 (a : Int) &&& BitVec.ofInt 32 (b : Int)).toNat : Int) = _
  rw [BitVec.toNat_and, ofInt_i32 a ha, ofInt_i32 b hb, IntKind.wrap_i32]
  omega
theorem and63_i32 (n : Int) (h0 : 0 ≤ n) (h1 : n ≤ 1114111) : bits .and .i32 n 63 = n % 64 := by
  obtain ⟨k, rfl⟩ := Int.eq_ofNat_of_zero_le h0
  have e := i32_and_nat k 63 (by omega) (by omega)
  have e2 : k &&& 63 = k % 64 := Nat.and_two_pow_sub_one_eq_mod k 6
  rw [e2] at e
  exact e
theorem or128 (x : Int) (h0 : 0 ≤ x) (h1 : x < 64) : bits .or .u8 128 x = 128 + x := by
  obtain ⟨k, rfl⟩ := Int.eq_ofNat_of_zero_le h0
  have : ∀ c : Fin 64, bits .or .u8 128 (c.val : Int) = 128 + (c.val : Int) := by decide +kernel
  exact this ⟨k, by omega⟩
theorem conv_at1 (w : World) (o : Obj) (a : Int) : (convert 33 9 (.slice (some ⟨w.heap.size + 1, 0, none⟩) 1 1)).run Try.prog ((w.alloc o).alloc (.cells #[.int .u8 a] 5)) =
      .ok (.string (strOfNums [a])) ((w.alloc o).alloc (.cells #[.int .u8 a] 5)) := by
  have := conv_1 (w.alloc o) a
  rwa [World.size_alloc] at this
theorem enc_lt (n : Int) : isRune n → rune n = n.toNat := fun h => by unfold rune; rw [if_pos h]
theorem enc_bad (n : Int) (h : ¬ isRune n) : (encN (rune n)).map (fun k : Nat => (k : Int)) = [239, 191, 189] := by
  unfold rune; rw [if_neg h]; decide
theorem enc_1 (n : Int) (h0 : 0 ≤ n) (h1 : n < 128) : (encN (rune n)).map (fun k : Nat => (k : Int)) = [n] := by
  rw [enc_lt n (by unfold isRune; omega)]
  unfold encN; rw [if_pos (by omega)]; simp; omega
theorem enc_2 (n : Int) (h0 : 128 ≤ n) (h1 : n < 2048) : (encN (rune n)).map (fun k : Nat => (k : Int)) = [192 + n / 64, 128 + n % 64] := by
  rw [enc_lt n (by unfold isRune; omega)]
  unfold encN; rw [if_neg (by omega), if_pos (by omega)]; simp; omega
theorem enc_3 (n : Int) (h0 : 2048 ≤ n) (h1 : n < 65536) (hr : isRune n) : (encN (rune n)).map (fun k : Nat => (k : Int)) = [224 + n / 4096, 128 + n / 64 % 64, 128 + n % 64] := by
  rw [enc_lt n hr]
  unfold encN; rw [if_neg (by omega), if_neg (by omega), if_pos (by omega)]; simp; omega
theorem enc_4 (n : Int) (h0 : 65536 ≤ n) (hr : isRune n) : (encN (rune n)).map (fun k : Nat => (k : Int)) = [240 + n / 262144, 128 + n / 4096 % 64, 128 + n / 64 % 64, 128 + n % 64] := by
  rw [enc_lt n hr]
  unfold encN; rw [if_neg (by omega), if_neg (by omega), if_neg (by omega)]; simp; omega
/-- The reference's Bytes: the bytes of any number. -/
theorem rbytes_any (n : Int) (w : World) :
    Calls Try.prog 35 #[.int .i64 n] w fun e w' => e = .returned (.string (strOf (enc n))) ∧ Below w.heap.size w w' := by
  by_cases hr : isRune n
  · have hr' := hr
    unfold isRune at hr'
    by_cases c1 : n < 128
    · rw [← enc_eq n _ (enc_1 n (by omega) c1)]; exact rbytes_1 n w (by omega) c1
    by_cases c2 : n < 2048
    · rw [← enc_eq n _ (enc_2 n (by omega) c2)]; exact rbytes_2 n w (by omega) c2
    by_cases c3 : n < 65536
    · rw [← enc_eq n _ (enc_3 n (by omega) c3 hr)]; exact rbytes_3 n w (by omega) (eq_true c3) (Lib.hid hr) (by omega)
    · rw [← enc_eq n _ (enc_4 n (by omega) hr)]; exact rbytes_4 n w (by omega) (eq_false c3) (Lib.hid hr) (by omega)
  · rw [← enc_eq n _ (enc_bad n hr)]; exact rbytes_bad n w hr
end Go.Proofs.Ytmfldffbafamnaa
