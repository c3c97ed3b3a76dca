/- Walks: the reference's Rune and Bytes, the program's Bytes. -/
import Derived.Test.YtlogjghbdnaedaaUtfB
import Derived.Laws.BytesArg
namespace Go.Proofs.Ytlogjghbdnaedaa
open Go.RowKit
set_option linter.unusedVariables false
set_option linter.unusedSimpArgs false
theorem rune_any (n : Int) (w : World) :
    Calls Try.prog 45 #[.int .i64 n] w fun e w' => e = .returned (.bool (decide (isRune n))) ∧ w = w' := by
  have key : ∀ b : Bool, ((b = true) ↔ isRune n) → b = decide (isRune n) := fun b h => by
    by_cases hr : isRune n
    · rw [decide_eq_true hr]; exact h.2 hr
    · rw [decide_eq_false hr]; cases b
      · rfl
      · exact absurd (h.1 rfl) hr
  have K := Lib.hid key
  clear key
  go_enter Try.func45, Try.ntmps45
  go_wp2
  all_goals
    go_ret
    exact ⟨congrArg (fun b => Ending.returned (.bool b)) (K.out _ (by unfold isRune; simp; omega)), rfl⟩
theorem rune_to (n : Int) (b : Bool) (w : World) (hb : decide (isRune n) = b) :
    Calls Try.prog 45 #[.int .i64 n] w fun e w' => e = .returned (.bool b) ∧ w = w' := by
  subst hb; exact rune_any n w
/-- A text, out of its bytes. -/
def strOf (l : List UInt8) : ByteArray := ⟨l.toArray⟩
theorem strOf_list (l : List UInt8) : (strOf l).data.toList = l := by simp [strOf]
theorem strOf_size (l : List UInt8) : (strOf l).size = l.length := by simp [strOf, ByteArray.size]
theorem strOf_data (s : ByteArray) : strOf s.data.toList = s := by cases s; simp [strOf]
theorem strOfNums_eq (xs : List Int) : strOfNums xs = strOf (xs.map fun n => UInt8.ofNat n.toNat) := rfl
theorem enc_eq (n : Int) (xs : List Int) (h : (encN (rune n)).map (fun k : Nat => (k : Int)) = xs) : strOfNums xs = strOf (enc n) := by
  subst h
  simp [strOfNums_eq, enc, List.map_map, Function.comp_def]
/-- A new slice of bytes, as a text. -/
theorem conv_new (w : World) (xs : List Int) (n : Nat) (hn : xs.length = n) :
    (convert 93 9 (.slice (some ⟨w.heap.size, 0, none⟩) n n)).run Try.prog (w.alloc (.cells (xs.map (Value.int .u8)).toArray 5)) =
      .ok (.string (strOfNums xs)) (w.alloc (.cells (xs.map (Value.int .u8)).toArray 5)) :=
  run_convert_bytes_arg _ 93 5 Try.underlying93 Try.underlying5 w.heap.size 0 n n xs hn (fun i hi => by
    have hb : (w.alloc (.cells (xs.map (Value.int .u8)).toArray 5)).heap[w.heap.size]? = some (.cells (xs.map (Value.int .u8)).toArray 5 (0, 0)) := heap_alloc_new w _
    rw [cell_of_row _ _ _ _ _ _ hb]
    simp [List.getElem?_map, List.getD_eq_getElem?_getD, List.getElem?_eq_getElem (by omega : i < xs.length)]) 9 Try.underlying9
theorem conv_1 (w : World) (a : Int) : (convert 93 9 (.slice (some ⟨w.heap.size, 0, none⟩) 1 1)).run Try.prog (w.alloc (.cells #[.int .u8 a] 5)) =
      .ok (.string (strOfNums [a])) (w.alloc (.cells #[.int .u8 a] 5)) := conv_new w [a] 1 rfl
theorem conv_2 (w : World) (a b : Int) : (convert 93 9 (.slice (some ⟨w.heap.size, 0, none⟩) 2 2)).run Try.prog (w.alloc (.cells #[.int .u8 a, .int .u8 b] 5)) =
      .ok (.string (strOfNums [a, b])) (w.alloc (.cells #[.int .u8 a, .int .u8 b] 5)) := conv_new w [a, b] 2 rfl
theorem conv_3 (w : World) (a b c : Int) : (convert 93 9 (.slice (some ⟨w.heap.size, 0, none⟩) 3 3)).run Try.prog (w.alloc (.cells #[.int .u8 a, .int .u8 b, .int .u8 c] 5)) =
      .ok (.string (strOfNums [a, b, c])) (w.alloc (.cells #[.int .u8 a, .int .u8 b, .int .u8 c] 5)) := conv_new w [a, b, c] 3 rfl
theorem conv_4 (w : World) (a b c d : Int) : (convert 93 9 (.slice (some ⟨w.heap.size, 0, none⟩) 4 4)).run Try.prog (w.alloc (.cells #[.int .u8 a, .int .u8 b, .int .u8 c, .int .u8 d] 5)) =
      .ok (.string (strOfNums [a, b, c, d])) (w.alloc (.cells #[.int .u8 a, .int .u8 b, .int .u8 c, .int .u8 d] 5)) := conv_new w [a, b, c, d] 4 rfl
theorem rbytes_1 (n : Int) (w : World) (h0 : 0 ≤ n) (h1 : n < 128) :
    Calls Try.prog 46 #[.int .i64 n] w fun e w' => e = .returned (.string (strOfNums [n])) ∧ Below w.heap.size w w' := by
  have HR := Lib.hid (fun w => rune_to n true w (decide_eq_true (by unfold isRune; omega)))
  have kc := conv_1
  go_enter Try.func46, Try.ntmps46
  go_wp2_with fail
  refine (HR.out _).mono ?_
  rintro e w' ⟨rfl, rfl⟩
  go_wp2_with fail
  go_ret
  exact ⟨rfl, (Below.refl _ _).alloc (Nat.le_refl _) _⟩
theorem rbytes_2 (n : Int) (w : World) (h0 : 128 ≤ n) (h1 : n < 2048) :
    Calls Try.prog 46 #[.int .i64 n] w fun e w' => e = .returned (.string (strOfNums [192 + n / 64, 128 + n % 64])) ∧ Below w.heap.size w w' := by
  have HR := Lib.hid (fun w => rune_to n true w (decide_eq_true (by unfold isRune; omega)))
  have kc := conv_2
  go_enter Try.func46, Try.ntmps46
  go_wp2_with fail
  refine (HR.out _).mono ?_
  rintro e w' ⟨rfl, rfl⟩
  go_wp2_with fail
  go_ret
  exact ⟨rfl, (Below.refl _ _).alloc (Nat.le_refl _) _⟩
theorem rbytes_3 (n : Int) (w : World) (h0 : 2048 ≤ n) (hN : (n < 65536) = True) (hr : Hid (isRune n)) (h1 : n / 4096 < 16) :
    Calls Try.prog 46 #[.int .i64 n] w fun e w' => e = .returned (.string (strOfNums [224 + n / 4096, 128 + n / 64 % 64, 128 + n % 64])) ∧ Below w.heap.size w w' := by
  have HR := Lib.hid (fun w => rune_to n true w (decide_eq_true hr.out))
  have kc := conv_3
  go_enter Try.func46, Try.ntmps46
  go_wp2_with fail
  refine (HR.out _).mono ?_
  rintro e w' ⟨rfl, rfl⟩
  go_wp2_with fail
  go_ret
  exact ⟨rfl, (Below.refl _ _).alloc (Nat.le_refl _) _⟩
theorem rbytes_4 (n : Int) (w : World) (h0 : 2048 ≤ n) (hN : (n < 65536) = False) (hr : Hid (isRune n)) (h1 : n / 262144 < 8) :
    Calls Try.prog 46 #[.int .i64 n] w fun e w' => e = .returned (.string (strOfNums [240 + n / 262144, 128 + n / 4096 % 64, 128 + n / 64 % 64, 128 + n % 64])) ∧ Below w.heap.size w w' := by
  have HR := Lib.hid (fun w => rune_to n true w (decide_eq_true hr.out))
  have kc := conv_4
  go_enter Try.func46, Try.ntmps46
  go_wp2_with fail
  refine (HR.out _).mono ?_
  rintro e w' ⟨rfl, rfl⟩
  go_wp2_with fail
  go_ret
  exact ⟨rfl, (Below.refl _ _).alloc (Nat.le_refl _) _⟩
theorem rbytes_bad (n : Int) (w : World) (h : ¬ isRune n) :
    Calls Try.prog 46 #[.int .i64 n] w fun e w' => e = .returned (.string (strOfNums [239, 191, 189])) ∧ Below w.heap.size w w' := by
  have HR := Lib.hid (fun w => rune_to n false w (decide_eq_false h))
  clear h
  have kc := conv_3
  go_enter Try.func46, Try.ntmps46
  go_wp2_with fail
  refine (HR.out _).mono ?_
  rintro e w' ⟨rfl, rfl⟩
  go_wp2_with fail
  go_ret
  exact ⟨rfl, (Below.refl _ _).alloc (Nat.le_refl _) _⟩
end Go.Proofs.Ytlogjghbdnaedaa
