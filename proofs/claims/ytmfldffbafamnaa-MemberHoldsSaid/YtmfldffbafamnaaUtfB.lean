/- Next: its walk. -/
import Derived.Test.YtmfldffbafamnaaUtfA
import Derived.Lib.IndexBytes
namespace Go.Proofs.Ytmfldffbafamnaa
open Go.RowKit
set_option linter.unusedVariables false
set_option linter.unusedSimpArgs false
def fin (least many : Nat) (o : Option Nat) : Nat × Nat := match o with | some v => if v < least ∨ ¬ isRune v then (65533, 1) else (v, many + 1) | none => (65533, 1)
theorem bt_cons0 (c : UInt8) (t : List UInt8) : bt (c :: t) 0 = c.toNat := by simp [bt]
theorem bt_cons1 (c : UInt8) (t : List UInt8) (i : Nat) : bt (c :: t) (i + 1) = bt t i := by simp [bt]
theorem bt_one (c d : UInt8) (t : List UInt8) : bt (c :: d :: t) 1 = d.toNat := by simp [bt]
theorem bt_two (c d e : UInt8) (t : List UInt8) : bt (c :: d :: e :: t) 2 = e.toNat := by simp [bt]
theorem bt_three (c d e f : UInt8) (t : List UInt8) : bt (c :: d :: e :: f :: t) 3 = f.toNat := by simp [bt]
theorem tl_succ (m r : Nat) (b : UInt8) (t : List UInt8) : tl (m + 1) r (b :: t) = if cont b.toNat then tl m (r * 64 + b.toNat % 64) t else none := rfl
theorem tl_nil (m r : Nat) : tl (m + 1) r [] = none := rfl
theorem tl_zero (r : Nat) (t : List UInt8) : tl 0 r t = some r := rfl
theorem fin_none (a b : Nat) : fin a b none = (65533, 1) := rfl
theorem fin_some (a b v : Nat) : fin a b (some v) = if v < a ∨ ¬ isRune v then (65533, 1) else (v, b + 1) := rfl
theorem nx_two (c b1 b2 b3 m : Nat) (h1 : 192 ≤ c) (h2 : c < 224) : nx c b1 b2 b3 m = if 2 ≤ m ∧ cont b1 then (if c % 32 * 64 + b1 % 64 < 128 ∨ ¬ isRune ((c % 32 * 64 + b1 % 64 : Nat) : Int) then (65533, 1) else (c % 32 * 64 + b1 % 64, 2)) else (65533, 1) := by
  unfold nx
  rw [if_neg (by omega)]
  by_cases hc : 2 ≤ m ∧ cont b1
  · obtain ⟨hm, hc⟩ := hc
    have hc' := hc
    unfold cont at hc'
    have e : c % 32 * 64 + b1 % 64 = (c - 192) * 64 + (b1 - 128) := by omega
    rw [if_pos (⟨hm, hc⟩ : 2 ≤ m ∧ cont b1), e]
    by_cases hv : 128 ≤ (c - 192) * 64 + (b1 - 128)
    · rw [if_pos ⟨h1, h2, hm, hc, hv⟩, if_neg (by unfold isRune; omega)]
    · rw [if_neg (by omega), if_neg (by omega), if_neg (by omega), if_pos (by omega)]
  · rw [if_neg (by intro h; exact hc ⟨h.2.2.1, h.2.2.2.1⟩), if_neg (by omega), if_neg (by omega), if_neg hc]
theorem nx_three (c b1 b2 b3 m : Nat) (h1 : 224 ≤ c) (h2 : c < 240) : nx c b1 b2 b3 m = if 3 ≤ m ∧ cont b1 ∧ cont b2 then (if (c % 16 * 64 + b1 % 64) * 64 + b2 % 64 < 2048 ∨ ¬ isRune (((c % 16 * 64 + b1 % 64) * 64 + b2 % 64 : Nat) : Int) then (65533, 1) else ((c % 16 * 64 + b1 % 64) * 64 + b2 % 64, 3)) else (65533, 1) := by
  unfold nx
  rw [if_neg (by omega), if_neg (by omega)]
  by_cases hc : 3 ≤ m ∧ cont b1 ∧ cont b2
  · obtain ⟨hm, hc1, hc2⟩ := hc
    have hc1' := hc1
    have hc2' := hc2
    unfold cont at hc1' hc2'
    have e : (c % 16 * 64 + b1 % 64) * 64 + b2 % 64 = (c - 224) * 4096 + (b1 - 128) * 64 + (b2 - 128) := by omega
    rw [if_pos (⟨hm, hc1, hc2⟩ : 3 ≤ m ∧ cont b1 ∧ cont b2), e]
    by_cases h : 2048 ≤ (c - 224) * 4096 + (b1 - 128) * 64 + (b2 - 128) ∧ isRune (((c - 224) * 4096 + (b1 - 128) * 64 + (b2 - 128) : Nat) : Int)
    · rw [if_pos ⟨h1, h2, hm, hc1, hc2, h.1, h.2⟩, if_neg (fun h' => by
        rcases h' with h' | h'
        · have := h.1; omega
        · exact h' h.2)]
    · rw [if_neg (fun h' => h ⟨h'.2.2.2.2.2.1, h'.2.2.2.2.2.2⟩), if_neg (by omega), if_pos (by
        by_cases h3 : (c - 224) * 4096 + (b1 - 128) * 64 + (b2 - 128) < 2048
        · exact .inl h3
        · right; intro h4; exact h ⟨by omega, h4⟩)]
  · rw [if_neg (by intro h; exact hc ⟨h.2.2.1, h.2.2.2.1, h.2.2.2.2.1⟩), if_neg (by omega), if_neg hc]
theorem nx_four (c b1 b2 b3 m : Nat) (h1 : 240 ≤ c) (h2 : c < 248) : nx c b1 b2 b3 m = if 4 ≤ m ∧ cont b1 ∧ cont b2 ∧ cont b3 then (if ((c % 8 * 64 + b1 % 64) * 64 + b2 % 64) * 64 + b3 % 64 < 65536 ∨ ¬ isRune ((((c % 8 * 64 + b1 % 64) * 64 + b2 % 64) * 64 + b3 % 64 : Nat) : Int) then (65533, 1) else (((c % 8 * 64 + b1 % 64) * 64 + b2 % 64) * 64 + b3 % 64, 4)) else (65533, 1) := by
  unfold nx
  rw [if_neg (by omega), if_neg (by omega), if_neg (by omega)]
  by_cases hc : 4 ≤ m ∧ cont b1 ∧ cont b2 ∧ cont b3
  · obtain ⟨hm, hc1, hc2, hc3⟩ := hc
    have hc1' := hc1
    have hc2' := hc2
    have hc3' := hc3
    unfold cont at hc1' hc2' hc3'
    have e : ((c % 8 * 64 + b1 % 64) * 64 + b2 % 64) * 64 + b3 % 64 = (c - 240) * 262144 + (b1 - 128) * 4096 + (b2 - 128) * 64 + (b3 - 128) := by omega
    rw [if_pos (⟨hm, hc1, hc2, hc3⟩ : 4 ≤ m ∧ cont b1 ∧ cont b2 ∧ cont b3), e]
    by_cases h : 65536 ≤ (c - 240) * 262144 + (b1 - 128) * 4096 + (b2 - 128) * 64 + (b3 - 128) ∧ (c - 240) * 262144 + (b1 - 128) * 4096 + (b2 - 128) * 64 + (b3 - 128) ≤ 1114111
    · rw [if_pos ⟨h1, h2, hm, hc1, hc2, hc3, h.1, h.2⟩, if_neg (by unfold isRune; omega)]
    · rw [if_neg (fun h' => h ⟨h'.2.2.2.2.2.2.1, h'.2.2.2.2.2.2.2⟩), if_pos (by unfold isRune; omega)]
  · rw [if_neg (by intro h; exact hc ⟨h.2.2.1, h.2.2.2.1, h.2.2.2.2.1, h.2.2.2.2.2.1⟩), if_neg hc]
theorem nx_bad (c b1 b2 b3 m : Nat) (h1 : 128 ≤ c) (h2 : c < 192 ∨ 248 ≤ c) : nx c b1 b2 b3 m = (65533, 1) := by
  unfold nx
  rw [if_neg (by omega), if_neg (by omega), if_neg (by omega), if_neg (by omega)]
theorem nx_one (c b1 b2 b3 m : Nat) (h1 : c < 128) : nx c b1 b2 b3 m = (c, 1) := by
  unfold nx
  rw [if_pos h1]
theorem next_two {l : List UInt8} (h0 : l ≠ []) (h1 : 192 ≤ bt l 0) (h2 : bt l 0 < 224) : next l = fin 128 1 (tl 1 (bt l 0 % 32) (l.drop 1)) := by
  unfold next
  rw [if_neg h0, nx_two _ _ _ _ _ h1 h2]
  rcases l with _ | ⟨c, _ | ⟨d, t⟩⟩
  · exact absurd rfl h0
  · simp [tl_nil, fin_none]
  · simp only [bt_cons0, bt_one, bt_two, bt_three, List.drop_succ_cons, List.drop_zero, List.length_cons, tl_succ, tl_zero]
    by_cases hd : cont d.toNat
    · rw [if_pos (⟨by omega, hd⟩ : _ ∧ _), if_pos hd, fin_some]
    · rw [if_neg (fun h => hd h.2), if_neg hd, fin_none]
theorem next_three {l : List UInt8} (h0 : l ≠ []) (h1 : 224 ≤ bt l 0) (h2 : bt l 0 < 240) : next l = fin 2048 2 (tl 2 (bt l 0 % 16) (l.drop 1)) := by
  unfold next
  rw [if_neg h0, nx_three _ _ _ _ _ h1 h2]
  rcases l with _ | ⟨c, _ | ⟨d, _ | ⟨e, t⟩⟩⟩
  · exact absurd rfl h0
  · simp [tl_nil, fin_none]
  · simp only [bt_cons0, bt_one, bt_two, bt_three, List.drop_succ_cons, List.drop_zero, List.length_cons, tl_succ, tl_nil]
    rw [if_neg (fun h => by have := h.1; simp at this), ite_self, fin_none]
  · simp only [bt_cons0, bt_one, bt_two, bt_three, List.drop_succ_cons, List.drop_zero, List.length_cons, tl_succ, tl_zero]
    by_cases hd : cont d.toNat
    · by_cases he : cont e.toNat
      · rw [if_pos (⟨by omega, hd, he⟩ : _ ∧ _ ∧ _), if_pos hd, if_pos he, fin_some]
      · rw [if_neg (fun h => he h.2.2), if_pos hd, if_neg he, fin_none]
    · rw [if_neg (fun h => hd h.2.1), if_neg hd, fin_none]
theorem next_four {l : List UInt8} (h0 : l ≠ []) (h1 : 240 ≤ bt l 0) (h2 : bt l 0 < 248) : next l = fin 65536 3 (tl 3 (bt l 0 % 8) (l.drop 1)) := by
  unfold next
  rw [if_neg h0, nx_four _ _ _ _ _ h1 h2]
  rcases l with _ | ⟨c, _ | ⟨d, _ | ⟨e, _ | ⟨f, t⟩⟩⟩⟩
  · exact absurd rfl h0
  · simp [tl_nil, fin_none]
  · simp only [bt_cons0, bt_one, bt_two, bt_three, List.drop_succ_cons, List.drop_zero, List.length_cons, tl_succ, tl_nil]
    rw [if_neg (fun h => by have := h.1; simp at this), ite_self, fin_none]
  · simp only [bt_cons0, bt_one, bt_two, bt_three, List.drop_succ_cons, List.drop_zero, List.length_cons, tl_succ, tl_nil]
    rw [if_neg (fun h => by have := h.1; simp at this), ite_self, ite_self, fin_none]
  · simp only [bt_cons0, bt_one, bt_two, bt_three, List.drop_succ_cons, List.drop_zero, List.length_cons, tl_succ, tl_zero]
    by_cases hd : cont d.toNat
    · by_cases he : cont e.toNat
      · by_cases hf : cont f.toNat
        · rw [if_pos (⟨by omega, hd, he, hf⟩ : _ ∧ _ ∧ _ ∧ _), if_pos hd, if_pos he, if_pos hf, fin_some]
        · rw [if_neg (fun h => hf h.2.2.2), if_pos hd, if_pos he, if_neg hf, fin_none]
      · rw [if_neg (fun h => he h.2.2.1), if_pos hd, if_neg he, fin_none]
    · rw [if_neg (fun h => hd h.2.1), if_neg hd, fin_none]
theorem next_one {l : List UInt8} (h0 : l ≠ []) (h1 : bt l 0 < 128) : next l = (bt l 0, 1) := by
  unfold next; rw [if_neg h0, nx_one _ _ _ _ _ h1]
theorem next_bad {l : List UInt8} (h0 : l ≠ []) (h1 : 128 ≤ bt l 0) (h2 : bt l 0 < 192 ∨ 248 ≤ bt l 0) : next l = (65533, 1) := by
  unfold next; rw [if_neg h0, nx_bad _ _ _ _ _ h1 h2]
theorem tl_bound : ∀ (m r : Nat) (l : List UInt8) (v : Nat), tl m r l = some v → v < (r + 1) * 64 ^ m
  | 0, r, l, v, h => by simp [tl_zero] at h; omega
  | m + 1, r, [], v, h => by simp [tl_nil] at h
  | m + 1, r, b :: t, v, h => by
    rw [tl_succ] at h
    split at h
    · have := tl_bound m _ t v h
      have h2 : (r * 64 + b.toNat % 64 + 1) * 64 ^ m ≤ ((r + 1) * 64) * 64 ^ m := Nat.mul_le_mul_right _ (by omega)
      rw [Nat.pow_succ, Nat.mul_comm (64 ^ m) 64, ← Nat.mul_assoc]
      omega
    · cases h
/-- What Next returns. -/
def nextV (p : Nat × Nat) : Value := .tuple #[.int .i32 p.1, .int .i64 p.2]
theorem ext_size (s : ByteArray) (k : Nat) : (s.extract k s.size).size = s.size - k := by
  rw [sz_len, Lib.extract_to_end, List.length_drop, ← sz_len]
theorem drop_ne {l : List UInt8} {k : Nat} (h : k < l.length) : l.drop k ≠ [] := fun e => by
  have := congrArg List.length e
  simp at this; omega
end Go.Proofs.Ytmfldffbafamnaa
