/- Plain: the document's way to find a rune (which number's bytes are these?) finds the one that Next does. -/
import Derived.Test.YtlogjghbdnaedaaUtfSpec
namespace Go.Proofs.Ytlogjghbdnaedaa
set_option linter.unusedVariables false
set_option linter.unusedSimpArgs false
/-- The number that the first bytes would be, so many of them. -/
def rv (l : List UInt8) : Nat → Int
  | 1 => bt l 0
  | 2 => 64 * ((bt l 0 : Int) - 192) + bt l 1 - 128
  | 3 => 64 * (64 * ((bt l 0 : Int) - 224) + bt l 1 - 128) + bt l 2 - 128
  | 4 => 64 * (64 * (64 * ((bt l 0 : Int) - 240) + bt l 1 - 128) + bt l 2 - 128) + bt l 3 - 128
  | _ => -1
theorem rv_1 (l : List UInt8) : rv l 1 = bt l 0 := rfl
theorem rv_2 (l : List UInt8) : rv l 2 = 64 * ((bt l 0 : Int) - 192) + bt l 1 - 128 := rfl
theorem rv_3 (l : List UInt8) : rv l 3 = 64 * (64 * ((bt l 0 : Int) - 224) + bt l 1 - 128) + bt l 2 - 128 := rfl
theorem rv_4 (l : List UInt8) : rv l 4 = 64 * (64 * (64 * ((bt l 0 : Int) - 240) + bt l 1 - 128) + bt l 2 - 128) + bt l 3 - 128 := rfl
def rtest (l : List UInt8) (k : Nat) : Prop := 0 ≤ rv l k ∧ isRune (rv l k) ∧ enc (rv l k) = l.take k
theorem encN_lt (n : Nat) (h : n ≤ 1114111) : ∀ b ∈ encN n, b < 256 := by
  unfold encN
  intro b hb
  split at hb
  · simp at hb; omega
  split at hb
  · simp at hb; omega
  split at hb
  · simp at hb; omega
  · simp at hb; omega
theorem take_one {l : List UInt8} (h : 1 ≤ l.length) : (l.take 1).map UInt8.toNat = [bt l 0] := by
  rcases l with _ | ⟨a, t⟩
  · simp at h
  · simp [bt]
theorem take_two {l : List UInt8} (h : 2 ≤ l.length) : (l.take 2).map UInt8.toNat = [bt l 0, bt l 1] := by
  rcases l with _ | ⟨a, _ | ⟨b, t⟩⟩ <;> simp at h
  simp [bt]
theorem take_three {l : List UInt8} (h : 3 ≤ l.length) : (l.take 3).map UInt8.toNat = [bt l 0, bt l 1, bt l 2] := by
  rcases l with _ | ⟨a, _ | ⟨b, _ | ⟨c, t⟩⟩⟩ <;> simp at h
  simp [bt]
theorem take_four {l : List UInt8} (h : 4 ≤ l.length) : (l.take 4).map UInt8.toNat = [bt l 0, bt l 1, bt l 2, bt l 3] := by
  rcases l with _ | ⟨a, _ | ⟨b, _ | ⟨c, _ | ⟨d, t⟩⟩⟩⟩ <;> simp at h
  simp [bt]
theorem enc_map (n : Int) : (enc n).map UInt8.toNat = encN (rune n) := by
  have hr : rune n ≤ 1114111 := by
    unfold rune; split
    · rename_i h; unfold isRune at h; omega
    · omega
  unfold enc
  rw [List.map_map]
  have : ∀ l : List Nat, (∀ b ∈ l, b < 256) → l.map (UInt8.toNat ∘ UInt8.ofNat) = l := by
    intro l
    induction l with
    | nil => intro _; rfl
    | cons a t ih =>
      intro h
      rw [List.map_cons, ih (fun b hb => h b (by simp [hb]))]
      have := h a (by simp)
      simp [Nat.mod_eq_of_lt this]
  exact this _ (encN_lt _ hr)
theorem map_inj {a b : List UInt8} (h : a.map UInt8.toNat = b.map UInt8.toNat) : a = b :=
  (List.map_inj_right (fun x y => UInt8.toNat.inj)).1 h
/-- Which numbers have just these bytes. -/
theorem rtest_iff {l : List UInt8} {k : Nat} : rtest l k ↔ 0 ≤ rv l k ∧ isRune (rv l k) ∧ encN (rv l k).toNat = (l.take k).map UInt8.toNat := by
  unfold rtest
  constructor
  · rintro ⟨h1, h2, h3⟩
    refine ⟨h1, h2, ?_⟩
    rw [← h3, enc_map]; unfold rune; rw [if_pos h2]
  · rintro ⟨h1, h2, h3⟩
    refine ⟨h1, h2, map_inj ?_⟩
    rw [enc_map, ← h3]; unfold rune; rw [if_pos h2]
theorem rtest_1 {l : List UInt8} (h : 1 ≤ l.length) : rtest l 1 ↔ bt l 0 < 128 := by
  rw [rtest_iff, take_one h, rv_1]
  have := bt_lt l 0
  unfold isRune encN
  constructor
  · rintro ⟨_, _, h3⟩
    by_cases c : bt l 0 < 128
    · exact c
    · rw [Int.toNat_natCast, if_neg c] at h3
      split at h3
      · simp at h3
      split at h3
      · simp at h3
      · simp at h3
  · intro c
    refine ⟨by omega, by omega, ?_⟩
    rw [Int.toNat_natCast, if_pos c]
theorem rtest_2 {l : List UInt8} (h : 2 ≤ l.length) : rtest l 2 ↔ 192 ≤ bt l 0 ∧ bt l 0 < 224 ∧ cont (bt l 1) ∧ 128 ≤ (bt l 0 - 192) * 64 + (bt l 1 - 128) := by
  rw [rtest_iff, take_two h, rv_2]
  have h0 := bt_lt l 0
  have h1 := bt_lt l 1
  unfold isRune encN cont
  generalize bt l 0 = a at *
  generalize bt l 1 = b at *
  constructor
  · rintro ⟨p, q, r⟩
    split at r
    · simp at r
    split at r
    · simp at r; omega
    split at r
    · simp at r
    · simp at r
  · rintro ⟨p, q, r, t⟩
    refine ⟨by omega, by omega, ?_⟩
    rw [if_neg (by omega), if_pos (by omega)]
    simp
    omega
theorem rtest_3 {l : List UInt8} (h : 3 ≤ l.length) : rtest l 3 ↔ 224 ≤ bt l 0 ∧ bt l 0 < 240 ∧ cont (bt l 1) ∧ cont (bt l 2) ∧ 2048 ≤ (bt l 0 - 224) * 4096 + (bt l 1 - 128) * 64 + (bt l 2 - 128) ∧ isRune (((bt l 0 - 224) * 4096 + (bt l 1 - 128) * 64 + (bt l 2 - 128) : Nat) : Int) := by
  rw [rtest_iff, take_three h, rv_3]
  have h0 := bt_lt l 0
  have h1 := bt_lt l 1
  have h2 := bt_lt l 2
  unfold isRune encN cont
  generalize bt l 0 = a at *
  generalize bt l 1 = b at *
  generalize bt l 2 = c at *
  constructor
  · rintro ⟨p, q, r⟩
    split at r
    · simp at r
    split at r
    · simp at r
    split at r
    · simp at r; omega
    · simp at r
  · rintro ⟨p, q, r, t, u, v⟩
    refine ⟨by omega, by omega, ?_⟩
    rw [if_neg (by omega), if_neg (by omega), if_pos (by omega)]
    simp
    omega
theorem rtest_4 {l : List UInt8} (h : 4 ≤ l.length) : rtest l 4 ↔ 240 ≤ bt l 0 ∧ bt l 0 < 248 ∧ cont (bt l 1) ∧ cont (bt l 2) ∧ cont (bt l 3) ∧ 65536 ≤ (bt l 0 - 240) * 262144 + (bt l 1 - 128) * 4096 + (bt l 2 - 128) * 64 + (bt l 3 - 128) ∧
      (bt l 0 - 240) * 262144 + (bt l 1 - 128) * 4096 + (bt l 2 - 128) * 64 + (bt l 3 - 128) ≤ 1114111 := by
  rw [rtest_iff, take_four h, rv_4]
  have h0 := bt_lt l 0
  have h1 := bt_lt l 1
  have h2 := bt_lt l 2
  have h3 := bt_lt l 3
  unfold isRune encN cont
  generalize bt l 0 = a at *
  generalize bt l 1 = b at *
  generalize bt l 2 = c at *
  generalize bt l 3 = d at *
  constructor
  · rintro ⟨p, q, r⟩
    split at r
    · simp at r
    split at r
    · simp at r
    split at r
    · simp at r
    · simp at r; omega
  · rintro ⟨p, q, r, t, u, v, x⟩
    refine ⟨by omega, by omega, ?_⟩
    rw [if_neg (by omega), if_neg (by omega), if_neg (by omega)]
    simp
    omega
theorem rtest_next {l : List UInt8} {k : Nat} (hk : k ≤ l.length) (h1 : 1 ≤ k) (h4 : k ≤ 4) (h : rtest l k) : next l = ((rv l k).toNat, k) := by
  have hl : l ≠ [] := by rintro rfl; simp at hk; omega
  unfold next
  rw [if_neg hl]
  have hk' : k = 1 ∨ k = 2 ∨ k = 3 ∨ k = 4 := by omega
  rcases hk' with rfl | rfl | rfl | rfl
  · rw [rtest_1 hk] at h
    rw [rv_1]
    unfold nx
    rw [if_pos h, Int.toNat_natCast]
  · rw [rtest_2 hk] at h
    obtain ⟨a, b, c, d⟩ := h
    rw [rv_2]
    unfold nx
    rw [if_neg (by omega), if_pos ⟨a, b, hk, c, d⟩]
    unfold cont at c
    exact Prod.ext (by dsimp only; omega) rfl
  · rw [rtest_3 hk] at h
    obtain ⟨a, b, c, d, e, f⟩ := h
    rw [rv_3]
    unfold nx
    rw [if_neg (by omega), if_neg (by omega), if_pos ⟨a, b, hk, c, d, e, f⟩]
    unfold cont at c d
    exact Prod.ext (by dsimp only; omega) rfl
  · rw [rtest_4 hk] at h
    obtain ⟨a, b, c, d, e, f, g⟩ := h
    rw [rv_4]
    unfold nx
    rw [if_neg (by omega), if_neg (by omega), if_neg (by omega), if_pos ⟨a, b, hk, c, d, e, f, g⟩]
    unfold cont at c d e
    exact Prod.ext (by dsimp only; omega) rfl
theorem rtest_none {l : List UInt8} (hl : l ≠ []) (h : ∀ k, 1 ≤ k → k ≤ 4 → k ≤ l.length → ¬ rtest l k) : next l = (65533, 1) := by
  have h1 : 1 ≤ l.length := by cases l <;> simp_all
  unfold next
  rw [if_neg hl]
  unfold nx
  have n1 := h 1 (by omega) (by omega) h1
  rw [rtest_1 h1] at n1
  rw [if_neg n1, if_neg, if_neg, if_neg]
  · rintro ⟨a, b, c, d⟩
    have := h 4 (by omega) (by omega) c
    rw [rtest_4 c] at this
    exact this ⟨a, b, d⟩
  · rintro ⟨a, b, c, d⟩
    have := h 3 (by omega) (by omega) c
    rw [rtest_3 c] at this
    exact this ⟨a, b, d⟩
  · rintro ⟨a, b, c, d⟩
    have := h 2 (by omega) (by omega) c
    rw [rtest_2 c] at this
    exact this ⟨a, b, d⟩
end Go.Proofs.Ytlogjghbdnaedaa
