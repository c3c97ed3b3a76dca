/- Next: its walk. -/
import Derived.Test.YtlogjghbdnaedaaUtfA
import Derived.Lib.IndexBytes
namespace Go.Proofs.Ytlogjghbdnaedaa
open Go.RowKit
set_option linter.unusedVariables false
set_option linter.unusedSimpArgs false
def fin (least many : Nat) (o : Option Nat) : Nat × Nat := match o with | some v => if v < least ∨ ¬ isRune v then (65533, 1) else (v, many + 1) | none => (65533, 1)
theorem bt_cons0 (c : UInt8) (t : List UInt8) : bt (c :: t) 0 = c.toNat := by simp [bt]
theorem bt_cons1 (c : UInt8) (t : List UInt8) (i : Nat) : bt (c :: t) (i + 1) = bt t i := by simp [bt]
theorem bt_one (c d : UInt8) (t : List UInt8) : bt (c :: d :: t) 1 = d.toNat := by simp [bt]
theorem bt_two (c d e : UInt8) (t : List UInt8) : bt (c :: d :: e :: t) 2 = e.toNat := by simp [bt]
theorem bt_three (c d e f : UInt8) (t : List UInt8) : bt (c :: d :: e :: f :: t) 3 = f.toNat := by simp [bt]
theorem tl_succ (m r : Nat) (b : UInt8) (t : List UInt8) : tl (m + 1) r (b :: t) = if cont b.toNat then tl m (r * 64 + b.toNat % 64) t else none := rfl
theorem tl_nil (m r : Nat) : tl (m + 1) r [] = none := rfl
theorem tl_zero (r : Nat) (t : List UInt8) : tl 0 r t = some r := rfl
theorem fin_none (a b : Nat) : fin a b none = (65533, 1) := rfl
theorem fin_some (a b v : Nat) : fin a b (some v) = if v < a ∨ ¬ isRune v then (65533, 1) else (v, b + 1) := rfl
theorem nx_two (c b1 b2 b3 m : Nat) (h1 : 192 ≤ c) (h2 : c < 224) : nx c b1 b2 b3 m = if 2 ≤ m ∧ cont b1 then (if c % 32 * 64 + b1 % 64 < 128 ∨ ¬ isRune ((c % 32 * 64 + b1 % 64 : Nat) : Int) then (65533, 1) else (c % 32 * 64 + b1 % 64, 2)) else (65533, 1) := by
  unfold nx
  rw [if_neg (by omega)]
  by_cases hc : 2 ≤ m ∧ cont b1
  · obtain ⟨hm, hc⟩ := hc
    have hc' := hc
    unfold cont at hc'
    have e : c % 32 * 64 + b1 % 64 = (c - 192) * 64 + (b1 - 128) := by omega
    rw [if_pos (⟨hm, hc⟩ : 2 ≤ m ∧ cont b1), e]
    by_cases hv : 128 ≤ (c - 192) * 64 + (b1 - 128)
    · rw [if_pos ⟨h1, h2, hm, hc, hv⟩, if_neg (by unfold isRune; omega)]
    · rw [if_neg (by omega), if_neg (by omega), if_neg (by omega), if_pos (by omega)]
  · rw [if_neg (by intro h; exact hc ⟨h.2.2.1, h.2.2.2.1⟩), if_neg (by omega), if_neg (by omega), if_neg hc]
theorem nx_three (c b1 b2 b3 m : Nat) (h1 : 224 ≤ c) (h2 : c < 240) : nx c b1 b2 b3 m = if 3 ≤ m ∧ cont b1 ∧ cont b2 then (if (c % 16 * 64 + b1 % 64) * 64 + b2 % 64 < 2048 ∨ ¬ isRune (((c % 16 * 64 + b1 % 64) * 64 + b2 % 64 : Nat) : Int) then (65533, 1) else ((c % 16 * 64 + b1 % 64) * 64 + b2 % 64, 3)) else (65533, 1) := by
  unfold nx
  rw [if_neg (by omega), if_neg (by omega)]
  by_cases hc : 3 ≤ m ∧ cont b1 ∧ cont b2
  · obtain ⟨hm, hc1, hc2⟩ := hc
    have hc1' := hc1
    have hc2' := hc2
    unfold cont at hc1' hc2'
    have e : (c % 16 * 64 + b1 % 64) * 64 + b2 % 64 = (c - 224) * 4096 + (b1 - 128) * 64 + (b2 - 128) := by omega
    rw [if_pos (⟨hm, hc1, hc2⟩ : 3 ≤ m ∧ cont b1 ∧ cont b2), e]
    by_cases h : 2048 ≤ (c - 224) * 4096 + (b1 - 128) * 64 + (b2 - 128) ∧ isRune (((c - 224) * 4096 + (b1 - 128) * 64 + (b2 - 128) : Nat) : Int)
    · rw [if_pos ⟨h1, h2, hm, hc1, hc2, h.1, h.2⟩, if_neg (fun h' => by
        rcases h' with h' | h'
        · have := h.1; omega
        · exact h' h.2)]
    · rw [if_neg (fun h' => h ⟨h'.2.2.2.2.2.1, h'.2.2.2.2.2.2⟩), if_neg (by omega), if_pos (by
        by_cases h3 : (c - 224) * 4096 + (b1 - 128) * 64 + (b2 - 128) < 2048
        · exact .inl h3
        · right; intro h4; exact h ⟨by omega, h4⟩)]
  · rw [if_neg (by intro h; exact hc ⟨h.2.2.1, h.2.2.2.1, h.2.2.2.2.1⟩), if_neg (by omega), if_neg hc]
theorem nx_four (c b1 b2 b3 m : Nat) (h1 : 240 ≤ c) (h2 : c < 248) : nx c b1 b2 b3 m = if 4 ≤ m ∧ cont b1 ∧ cont b2 ∧ cont b3 then (if ((c % 8 * 64 + b1 % 64) * 64 + b2 % 64) * 64 + b3 % 64 < 65536 ∨ ¬ isRune ((((c % 8 * 64 + b1 % 64) * 64 + b2 % 64) * 64 + b3 % 64 : Nat) : Int) then (65533, 1) else (((c % 8 * 64 + b1 % 64) * 64 + b2 % 64) * 64 + b3 % 64, 4)) else (65533, 1) := by
  unfold nx
  rw [if_neg (by omega), if_neg (by omega), if_neg (by omega)]
  by_cases hc : 4 ≤ m ∧ cont b1 ∧ cont b2 ∧ cont b3
  · obtain ⟨hm, hc1, hc2, hc3⟩ := hc
    have hc1' := hc1
    have hc2' := hc2
    have hc3' := hc3
    unfold cont at hc1' hc2' hc3'
    have e : ((c % 8 * 64 + b1 % 64) * 64 + b2 % 64) * 64 + b3 % 64 = (c - 240) * 262144 + (b1 - 128) * 4096 + (b2 - 128) * 64 + (b3 - 128) := by omega
    rw [if_pos (⟨hm, hc1, hc2, hc3⟩ : 4 ≤ m ∧ cont b1 ∧ cont b2 ∧ cont b3), e]
    by_cases h : 65536 ≤ (c - 240) * 262144 + (b1 - 128) * 4096 + (b2 - 128) * 64 + (b3 - 128) ∧ (c - 240) * 262144 + (b1 - 128) * 4096 + (b2 - 128) * 64 + (b3 - 128) ≤ 1114111
    · rw [if_pos ⟨h1, h2, hm, hc1, hc2, hc3, h.1, h.2⟩, if_neg (by unfold isRune; omega)]
    · rw [if_neg (fun h' => h ⟨h'.2.2.2.2.2.2.1, h'.2.2.2.2.2.2.2⟩), if_pos (by unfold isRune; omega)]
  · rw [if_neg (by intro h; exact hc ⟨h.2.2.1, h.2.2.2.1, h.2.2.2.2.1, h.2.2.2.2.2.1⟩), if_neg hc]
theorem nx_bad (c b1 b2 b3 m : Nat) (h1 : 128 ≤ c) (h2 : c < 192 ∨ 248 ≤ c) : nx c b1 b2 b3 m = (65533, 1) := by
  unfold nx
  rw [if_neg (by omega), if_neg (by omega), if_neg (by omega), if_neg (by omega)]
theorem nx_one (c b1 b2 b3 m : Nat) (h1 : c < 128) : nx c b1 b2 b3 m = (c, 1) := by
  unfold nx
  rw [if_pos h1]
theorem next_two {l : List UInt8} (h0 : l ≠ []) (h1 : 192 ≤ bt l 0) (h2 : bt l 0 < 224) : next l = fin 128 1 (tl 1 (bt l 0 % 32) (l.drop 1)) := by
  unfold next
  rw [if_neg h0, nx_two _ _ _ _ _ h1 h2]
  rcases l with _ | ⟨c, _ | ⟨d, t⟩⟩
  · exact absurd rfl h0
  · simp [tl_nil, fin_none]
  · simp only [bt_cons0, bt_one, bt_two, bt_three, List.drop_succ_cons, List.drop_zero, List.length_cons, tl_succ, tl_zero]
    by_cases hd : cont d.toNat
    · rw [if_pos (⟨by omega, hd⟩ : _ ∧ _), if_pos hd, fin_some]
    · rw [if_neg (fun h => hd h.2), if_neg hd, fin_none]
theorem next_three {l : List UInt8} (h0 : l ≠ []) (h1 : 224 ≤ bt l 0) (h2 : bt l 0 < 240) : next l = fin 2048 2 (tl 2 (bt l 0 % 16) (l.drop 1)) := by
  unfold next
  rw [if_neg h0, nx_three _ _ _ _ _ h1 h2]
  rcases l with _ | ⟨c, _ | ⟨d, _ | ⟨e, t⟩⟩⟩
  · exact absurd rfl h0
  · simp [tl_nil, fin_none]
  · simp only [bt_cons0, bt_one, bt_two, bt_three, List.drop_succ_cons, List.drop_zero, List.length_cons, tl_succ, tl_nil]
    rw [if_neg (fun h => by have := h.1; simp at this), ite_self, fin_none]
  · simp only [bt_cons0, bt_one, bt_two, bt_three, List.drop_succ_cons, List.drop_zero, List.length_cons, tl_succ, tl_zero]
    by_cases hd : cont d.toNat
    · by_cases he : cont e.toNat
      · rw [if_pos (⟨by omega, hd, he⟩ : _ ∧ _ ∧ _), if_pos hd, if_pos he, fin_some]
      · rw [if_neg (fun h => he h.2.2), if_pos hd, if_neg he, fin_none]
    · rw [if_neg (fun h => hd h.2.1), if_neg hd, fin_none]
theorem next_four {l : List UInt8} (h0 : l ≠ []) (h1 : 240 ≤ bt l 0) (h2 : bt l 0 < 248) : next l = fin 65536 3 (tl 3 (bt l 0 % 8) (l.drop 1)) := by
  unfold next
  rw [if_neg h0, nx_four _ _ _ _ _ h1 h2]
  rcases l with _ | ⟨c, _ | ⟨d, _ | ⟨e, _ | ⟨f, t⟩⟩⟩⟩
  · exact absurd rfl h0
  · simp [tl_nil, fin_none]
  · simp only [bt_cons0, bt_one, bt_two, bt_three, List.drop_succ_cons, List.drop_zero, List.length_cons, tl_succ, tl_nil]
    rw [if_neg (fun h => by have := h.1; simp at this), ite_self, fin_none]
  · simp only [bt_cons0, bt_one, bt_two, bt_three, List.drop_succ_cons, List.drop_zero, List.length_cons, tl_succ, tl_nil]
    rw [if_neg (fun h => by have := h.1; simp at this), ite_self, ite_self, fin_none]
  · simp only [bt_cons0, bt_one, bt_two, bt_three, List.drop_succ_cons, List.drop_zero, List.length_cons, tl_succ, tl_zero]
    by_cases hd : cont d.toNat
    · by_cases he : cont e.toNat
      · by_cases hf : cont f.toNat
        · rw [if_pos (⟨by omega, hd, he, hf⟩ : _ ∧ _ ∧ _ ∧ _), if_pos hd, if_pos he, if_pos hf, fin_some]
        · rw [if_neg (fun h => hf h.2.2.2), if_pos hd, if_pos he, if_neg hf, fin_none]
      · rw [if_neg (fun h => he h.2.2.1), if_pos hd, if_neg he, fin_none]
    · rw [if_neg (fun h => hd h.2.1), if_neg hd, fin_none]
theorem next_one {l : List UInt8} (h0 : l ≠ []) (h1 : bt l 0 < 128) : next l = (bt l 0, 1) := by
  unfold next; rw [if_neg h0, nx_one _ _ _ _ _ h1]
theorem next_bad {l : List UInt8} (h0 : l ≠ []) (h1 : 128 ≤ bt l 0) (h2 : bt l 0 < 192 ∨ 248 ≤ bt l 0) : next l = (65533, 1) := by
  unfold next; rw [if_neg h0, nx_bad _ _ _ _ _ h1 h2]
theorem tl_bound : ∀ (m r : Nat) (l : List UInt8) (v : Nat), tl m r l = some v → v < (r + 1) * 64 ^ m
  | 0, r, l, v, h => by simp [tl_zero] at h; omega
  | m + 1, r, [], v, h => by simp [tl_nil] at h
  | m + 1, r, b :: t, v, h => by
    rw [tl_succ] at h
    split at h
    · have := tl_bound m _ t v h
      have h2 : (r * 64 + b.toNat % 64 + 1) * 64 ^ m ≤ ((r + 1) * 64) * 64 ^ m := Nat.mul_le_mul_right _ (by omega)
      rw [Nat.pow_succ, Nat.mul_comm (64 ^ m) 64, ← Nat.mul_assoc]
      omega
    · cases h
/-- What Next returns. -/
def nextV (p : Nat × Nat) : Value := .tuple #[.int .i32 p.1, .int .i64 p.2]
theorem tail_to (t : ByteArray) (r many : Nat) (o : Option Nat) (w : World) (hs : t.size ≤ maxLen) (hr : r < 32) (hm : many ≤ 3) (ho : tl many r t.data.toList = o) :
    Calls Try.prog 62 #[.string t, .int .i32 r, .int .i64 many] w fun e w' => e = .returned (tailV o) ∧ w = w' := by
  subst ho; exact tail_any t r many w hs hr hm
theorem is_to (n : Int) (b : Bool) (w : World) (hb : decide (isRune n) = b) :
    Calls Try.prog 63 #[.int .i32 n] w fun e w' => e = .returned (.bool b) ∧ w = w' := by
  subst hb; exact is_any n w
theorem ext_size (s : ByteArray) (k : Nat) : (s.extract k s.size).size = s.size - k := by
  rw [sz_len, Lib.extract_to_end, List.length_drop, ← sz_len]
theorem drop_ne {l : List UInt8} {k : Nat} (h : k < l.length) : l.drop k ≠ [] := fun e => by
  have := congrArg List.length e
  simp at this; omega
set_option maxRecDepth 100000 in
theorem next_one_w (s : ByteArray) (k c : Nat) (w : World) (hs : s.size ≤ 9223372036854775807) (hk : k < s.size) (hb : (s[k]).toNat = c) (c1 : c < 128) :
    Calls Try.prog 48 #[.string s, .int .i64 k] w fun e w' => e = .returned (nextV (c, 1)) ∧ w = w' := by
  go_enter Try.func48, Try.ntmps48
  go_wp2
  go_ret2
  exact ⟨rfl, rfl⟩
set_option maxRecDepth 100000 in
theorem next_bad1_w (s : ByteArray) (k c : Nat) (w : World) (hs : s.size ≤ 9223372036854775807) (hk : k < s.size) (hb : (s[k]).toNat = c) (c1 : 128 ≤ c) (c2 : c < 192) :
    Calls Try.prog 48 #[.string s, .int .i64 k] w fun e w' => e = .returned (nextV (65533, 1)) ∧ w = w' := by
  go_enter Try.func48, Try.ntmps48
  go_wp2
  go_ret2
  exact ⟨rfl, rfl⟩
set_option maxRecDepth 100000 in
theorem next_bad2_w (s : ByteArray) (k c : Nat) (w : World) (hs : s.size ≤ 9223372036854775807) (hk : k < s.size) (hb : (s[k]).toNat = c) (c1 : 248 ≤ c) (c2 : c < 256) :
    Calls Try.prog 48 #[.string s, .int .i64 k] w fun e w' => e = .returned (nextV (65533, 1)) ∧ w = w' := by
  go_enter Try.func48, Try.ntmps48
  go_wp2
  go_ret2
  exact ⟨rfl, rfl⟩
set_option maxRecDepth 100000 in
set_option maxHeartbeats 4000000 in
theorem next_two_w (s : ByteArray) (k c : Nat) (o : Option Nat) (w : World) (hs : s.size ≤ 9223372036854775807) (hk : k < s.size) (hb : (s[k]).toNat = c) (c1 : 192 ≤ c) (c2 : c < 224)
    (hbits : bits BinOp.and IntKind.u8 (c : Int) 31 = ((c % 32 : Nat) : Int)) (H : Hid (∀ w, Calls Try.prog 62 #[.string (s.extract (k + 1) s.size), .int .i32 ((c % 32 : Nat) : Int), .int .i64 1] w fun e w' => e = .returned (tailV o) ∧ w = w')) (ho : ∀ v, o = some v → v < 2097152) :
    Calls Try.prog 48 #[.string s, .int .i64 k] w fun e w' => e = .returned (nextV (fin 128 1 o)) ∧ w = w' := by
  rcases o with _ | v
  · clear ho
    go_enter Try.func48, Try.ntmps48
    go_wp2_with fail
    refine (H.out _).mono ?_
    rintro e w' ⟨rfl, rfl⟩
    unfold tailV
    go_wp2_with fail
    go_ret2
    exact ⟨rfl, rfl⟩
  · have hv := ho v rfl
    clear ho
    by_cases h1 : v < 128
    · have HF : Hid (fin 128 1 (some v) = (65533, 1)) := by show _ = _; rw [fin_some, if_pos (.inl h1)]
      go_enter Try.func48, Try.ntmps48
      go_wp2_with fail
      refine (H.out _).mono ?_
      rintro e w' ⟨rfl, rfl⟩
      unfold tailV
      go_wp2_with fail
      go_ret2
      exact ⟨by rw [HF.out]; rfl, rfl⟩
    · by_cases h2 : isRune (v : Int)
      · have HF : Hid (fin 128 1 (some v) = (v, 1 + 1)) := by show _ = _; rw [fin_some, if_neg (fun h => by rcases h with h | h; exact h1 h; exact h h2)]
        have HI := Lib.hid (fun w => is_to (v : Int) true w (decide_eq_true h2))
        clear h2
        go_enter Try.func48, Try.ntmps48
        go_wp2_with fail
        refine (H.out _).mono ?_
        rintro e w' ⟨rfl, rfl⟩
        unfold tailV
        go_wp2_with fail
        refine (HI.out _).mono ?_
        rintro e w' ⟨rfl, rfl⟩
        go_wp2_with fail
        go_ret2
        exact ⟨by rw [HF.out]; rfl, rfl⟩
      · have HF : Hid (fin 128 1 (some v) = (65533, 1)) := by show _ = _; rw [fin_some, if_pos (.inr h2)]
        have HI := Lib.hid (fun w => is_to (v : Int) false w (decide_eq_false h2))
        clear h2
        go_enter Try.func48, Try.ntmps48
        go_wp2_with fail
        refine (H.out _).mono ?_
        rintro e w' ⟨rfl, rfl⟩
        unfold tailV
        go_wp2_with fail
        refine (HI.out _).mono ?_
        rintro e w' ⟨rfl, rfl⟩
        go_wp2_with fail
        go_ret2
        exact ⟨by rw [HF.out]; rfl, rfl⟩
set_option maxRecDepth 100000 in
set_option maxHeartbeats 4000000 in
theorem next_three_w (s : ByteArray) (k c : Nat) (o : Option Nat) (w : World) (hs : s.size ≤ 9223372036854775807) (hk : k < s.size) (hb : (s[k]).toNat = c) (c1 : 224 ≤ c) (c2 : c < 240)
    (hbits : bits BinOp.and IntKind.u8 (c : Int) 15 = ((c % 16 : Nat) : Int)) (H : Hid (∀ w, Calls Try.prog 62 #[.string (s.extract (k + 1) s.size), .int .i32 ((c % 16 : Nat) : Int), .int .i64 2] w fun e w' => e = .returned (tailV o) ∧ w = w')) (ho : ∀ v, o = some v → v < 2097152) :
    Calls Try.prog 48 #[.string s, .int .i64 k] w fun e w' => e = .returned (nextV (fin 2048 2 o)) ∧ w = w' := by
  rcases o with _ | v
  · clear ho
    go_enter Try.func48, Try.ntmps48
    go_wp2_with fail
    refine (H.out _).mono ?_
    rintro e w' ⟨rfl, rfl⟩
    unfold tailV
    go_wp2_with fail
    go_ret2
    exact ⟨rfl, rfl⟩
  · have hv := ho v rfl
    clear ho
    by_cases h1 : v < 2048
    · have HF : Hid (fin 2048 2 (some v) = (65533, 1)) := by show _ = _; rw [fin_some, if_pos (.inl h1)]
      go_enter Try.func48, Try.ntmps48
      go_wp2_with fail
      refine (H.out _).mono ?_
      rintro e w' ⟨rfl, rfl⟩
      unfold tailV
      go_wp2_with fail
      go_ret2
      exact ⟨by rw [HF.out]; rfl, rfl⟩
    · by_cases h2 : isRune (v : Int)
      · have HF : Hid (fin 2048 2 (some v) = (v, 2 + 1)) := by show _ = _; rw [fin_some, if_neg (fun h => by rcases h with h | h; exact h1 h; exact h h2)]
        have HI := Lib.hid (fun w => is_to (v : Int) true w (decide_eq_true h2))
        clear h2
        go_enter Try.func48, Try.ntmps48
        go_wp2_with fail
        refine (H.out _).mono ?_
        rintro e w' ⟨rfl, rfl⟩
        unfold tailV
        go_wp2_with fail
        refine (HI.out _).mono ?_
        rintro e w' ⟨rfl, rfl⟩
        go_wp2_with fail
        go_ret2
        exact ⟨by rw [HF.out]; rfl, rfl⟩
      · have HF : Hid (fin 2048 2 (some v) = (65533, 1)) := by show _ = _; rw [fin_some, if_pos (.inr h2)]
        have HI := Lib.hid (fun w => is_to (v : Int) false w (decide_eq_false h2))
        clear h2
        go_enter Try.func48, Try.ntmps48
        go_wp2_with fail
        refine (H.out _).mono ?_
        rintro e w' ⟨rfl, rfl⟩
        unfold tailV
        go_wp2_with fail
        refine (HI.out _).mono ?_
        rintro e w' ⟨rfl, rfl⟩
        go_wp2_with fail
        go_ret2
        exact ⟨by rw [HF.out]; rfl, rfl⟩
set_option maxRecDepth 100000 in
set_option maxHeartbeats 4000000 in
theorem next_four_w (s : ByteArray) (k c : Nat) (o : Option Nat) (w : World) (hs : s.size ≤ 9223372036854775807) (hk : k < s.size) (hb : (s[k]).toNat = c) (c1 : 240 ≤ c) (c2 : c < 248)
    (hbits : bits BinOp.and IntKind.u8 (c : Int) 7 = ((c % 8 : Nat) : Int)) (H : Hid (∀ w, Calls Try.prog 62 #[.string (s.extract (k + 1) s.size), .int .i32 ((c % 8 : Nat) : Int), .int .i64 3] w fun e w' => e = .returned (tailV o) ∧ w = w')) (ho : ∀ v, o = some v → v < 2097152) :
    Calls Try.prog 48 #[.string s, .int .i64 k] w fun e w' => e = .returned (nextV (fin 65536 3 o)) ∧ w = w' := by
  rcases o with _ | v
  · clear ho
    go_enter Try.func48, Try.ntmps48
    go_wp2_with fail
    refine (H.out _).mono ?_
    rintro e w' ⟨rfl, rfl⟩
    unfold tailV
    go_wp2_with fail
    go_ret2
    exact ⟨rfl, rfl⟩
  · have hv := ho v rfl
    clear ho
    by_cases h1 : v < 65536
    · have HF : Hid (fin 65536 3 (some v) = (65533, 1)) := by show _ = _; rw [fin_some, if_pos (.inl h1)]
      go_enter Try.func48, Try.ntmps48
      go_wp2_with fail
      refine (H.out _).mono ?_
      rintro e w' ⟨rfl, rfl⟩
      unfold tailV
      go_wp2_with fail
      go_ret2
      exact ⟨by rw [HF.out]; rfl, rfl⟩
    · by_cases h2 : isRune (v : Int)
      · have HF : Hid (fin 65536 3 (some v) = (v, 3 + 1)) := by show _ = _; rw [fin_some, if_neg (fun h => by rcases h with h | h; exact h1 h; exact h h2)]
        have HI := Lib.hid (fun w => is_to (v : Int) true w (decide_eq_true h2))
        clear h2
        have h1' : ((v : Int) < 65536) = False := by simp; omega
        clear h1 hv
        go_enter Try.func48, Try.ntmps48
        go_wp2_with fail
        refine (H.out _).mono ?_
        rintro e w' ⟨rfl, rfl⟩
        unfold tailV
        go_wp2_with fail
        refine (HI.out _).mono ?_
        rintro e w' ⟨rfl, rfl⟩
        go_wp2_with fail
        go_ret2
        exact ⟨by rw [HF.out]; rfl, rfl⟩
      · have HF : Hid (fin 65536 3 (some v) = (65533, 1)) := by show _ = _; rw [fin_some, if_pos (.inr h2)]
        have HI := Lib.hid (fun w => is_to (v : Int) false w (decide_eq_false h2))
        clear h2
        have h1' : ((v : Int) < 65536) = False := by simp; omega
        clear h1 hv
        go_enter Try.func48, Try.ntmps48
        go_wp2_with fail
        refine (H.out _).mono ?_
        rintro e w' ⟨rfl, rfl⟩
        unfold tailV
        go_wp2_with fail
        refine (HI.out _).mono ?_
        rintro e w' ⟨rfl, rfl⟩
        go_wp2_with fail
        go_ret2
        exact ⟨by rw [HF.out]; rfl, rfl⟩
set_option maxRecDepth 100000 in
theorem next_out_1 (s : ByteArray) (k : Int) (w : World) (hk : k < 0) :
    Calls Try.prog 48 #[.string s, .int .i64 k] w fun e w' => e = .returned (nextV (0, 0)) ∧ w = w' := by
  go_enter Try.func48, Try.ntmps48
  go_wp2
  go_ret2
  exact ⟨rfl, rfl⟩
set_option maxRecDepth 100000 in
theorem next_out_2 (s : ByteArray) (k : Int) (w : World) (h0 : 0 ≤ k) (hk : (s.size : Int) ≤ k) :
    Calls Try.prog 48 #[.string s, .int .i64 k] w fun e w' => e = .returned (nextV (0, 0)) ∧ w = w' := by
  go_enter Try.func48, Try.ntmps48
  go_wp2
  go_ret2
  exact ⟨rfl, rfl⟩
/-- The program's Next, at any place of any text. -/
theorem next_any (s : ByteArray) (k : Int) (w : World) (hs : s.size ≤ maxLen) :
    Calls Try.prog 48 #[.string s, .int .i64 k] w fun e w' => e = .returned (nextV (nextAt s.data.toList k)) ∧ w = w' := by
  have hs' : s.size ≤ 9223372036854775807 := by unfold maxLen at hs; omega
  unfold nextAt
  by_cases h0 : k < 0
  · rw [if_pos h0]; exact next_out_1 s k w h0
  rw [if_neg h0]
  obtain ⟨k, rfl⟩ := Int.eq_ofNat_of_zero_le (by omega : 0 ≤ k)
  rw [Int.toNat_natCast]
  by_cases hk : k < s.size
  · have hkl : k < s.data.toList.length := by rw [← sz_len]; exact hk
    have hne := drop_ne hkl
    have hc0 : bt (s.data.toList.drop k) 0 = bt s.data.toList k := by rw [bt_drop, Nat.add_zero]
    have hb := bt_byte s k hk
    have hb256 := bt_lt s.data.toList k
    have hes := ext_size s (k + 1)
    have hel := Lib.extract_to_end s (k + 1)
    have hdd : (s.data.toList.drop k).drop 1 = (s.extract (k + 1) s.size).data.toList := by rw [hel, List.drop_drop]
    have hle : (s.extract (k + 1) s.size).size ≤ maxLen := by unfold maxLen; omega
    by_cases c1 : bt s.data.toList k < 128
    · rw [next_one hne (by rw [hc0]; exact c1), hc0]
      exact next_one_w s k _ w hs' hk hb c1
    by_cases c2 : bt s.data.toList k < 192
    · rw [next_bad hne (by rw [hc0]; omega) (by rw [hc0]; exact .inl c2)]
      exact next_bad1_w s k _ w hs' hk hb (by omega) c2
    by_cases c3 : 248 ≤ bt s.data.toList k
    · rw [next_bad hne (by rw [hc0]; omega) (by rw [hc0]; exact .inr c3)]
      exact next_bad2_w s k _ w hs' hk hb c3 hb256
    by_cases c4 : bt s.data.toList k < 224
    · rw [next_two hne (by rw [hc0]; omega) (by rw [hc0]; exact c4), hc0, hdd]
      exact next_two_w s k _ _ w hs' hk hb (by omega) c4 (and_31 _ hb256) (Lib.hid fun w => tail_to _ _ 1 _ w hle (by omega) (by omega) rfl)
        fun v hv => Nat.lt_of_lt_of_le (tl_bound _ _ _ _ hv) (Nat.le_trans (Nat.mul_le_mul_right _ (by omega : _ ≤ 32)) (by decide))
    by_cases c5 : bt s.data.toList k < 240
    · rw [next_three hne (by rw [hc0]; omega) (by rw [hc0]; exact c5), hc0, hdd]
      exact next_three_w s k _ _ w hs' hk hb (by omega) c5 (and_15 _ hb256) (Lib.hid fun w => tail_to _ _ 2 _ w hle (by omega) (by omega) rfl)
        fun v hv => Nat.lt_of_lt_of_le (tl_bound _ _ _ _ hv) (Nat.le_trans (Nat.mul_le_mul_right _ (by omega : _ ≤ 16)) (by decide))
    · rw [next_four hne (by rw [hc0]; omega) (by rw [hc0]; omega), hc0, hdd]
      exact next_four_w s k _ _ w hs' hk hb (by omega) (by omega) (and_7 _ hb256) (Lib.hid fun w => tail_to _ _ 3 _ w hle (by omega) (by omega) rfl)
        fun v hv => Nat.lt_of_lt_of_le (tl_bound _ _ _ _ hv) (Nat.le_trans (Nat.mul_le_mul_right _ (by omega : _ ≤ 8)) (by decide))
  · have hn : s.data.toList.drop k = [] := List.drop_eq_nil_of_le (by rw [← sz_len]; omega)
    rw [hn]
    exact next_out_2 s k w (by omega) (by omega)
end Go.Proofs.Ytlogjghbdnaedaa
