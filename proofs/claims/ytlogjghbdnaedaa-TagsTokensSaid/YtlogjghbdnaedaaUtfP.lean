/- Plain: what is said of sanitised texts, of fronts, of a text put together again. -/
import Derived.Test.YtlogjghbdnaedaaUtfS
import Derived.Test.YtlogjghbdnaedaaUtfR
namespace Go.Proofs.Ytlogjghbdnaedaa
set_option linter.unusedVariables false
set_option linter.unusedSimpArgs false
theorem rune_is (n : Int) : isRune (rune n : Int) := by
  unfold rune
  split
  · rename_i h; unfold isRune at *; omega
  · decide
theorem rune_self {n : Int} (h : isRune n) : (rune n : Int) = n := by
  unfold rune; rw [if_pos h]; unfold isRune at h; omega
theorem rune_of_rune (n : Int) : rune (rune n : Int) = rune n := by
  have := rune_self (rune_is n); omega
theorem enc_of_rune (n : Int) : enc (rune n : Int) = enc n := by unfold enc; rw [rune_of_rune]
theorem rune_or (m : Nat) : rune (m : Int) = m ∨ rune (m : Int) = 65533 := by
  unfold rune
  split
  · left; omega
  · right; rfl
theorem of8 {x : Nat} (h : x < 256) : (UInt8.ofNat x).toNat = x := by simp [Nat.mod_eq_of_lt h]
set_option maxHeartbeats 1000000 in
theorem next_enc (n : Int) (t : List UInt8) : next (enc n ++ t) = (rune n, (enc n).length) := by
  have hr := rune_is n
  have hr' := hr
  unfold enc
  generalize rune n = r at *
  unfold isRune at hr
  unfold encN
  by_cases h1 : r < 128
  · rw [if_pos h1]
    simp only [List.map_cons, List.map_nil, List.cons_append, List.nil_append, List.length_cons, List.length_nil]
    unfold next
    rw [if_neg (by simp)]
    have b0 : bt (UInt8.ofNat r :: t) 0 = r := of8 (by omega)
    rw [b0]
    unfold nx
    rw [if_pos h1]
  · rw [if_neg h1]
    by_cases h2 : r < 2048
    · rw [if_pos h2]
      simp only [List.map_cons, List.map_nil, List.cons_append, List.nil_append, List.length_cons, List.length_nil]
      unfold next
      rw [if_neg (by simp)]
      have b0 : bt (UInt8.ofNat (192 + r / 64) :: UInt8.ofNat (128 + r % 64) :: t) 0 = 192 + r / 64 := of8 (by omega)
      have b1 : bt (UInt8.ofNat (192 + r / 64) :: UInt8.ofNat (128 + r % 64) :: t) 1 = 128 + r % 64 := of8 (by omega)
      rw [b0, b1]
      unfold nx cont
      rw [if_neg (by omega), if_pos ⟨by omega, by omega, by simp, by omega, by omega⟩]
      exact Prod.ext (by dsimp only; omega) rfl
    · rw [if_neg h2]
      by_cases h3 : r < 65536
      · rw [if_pos h3]
        simp only [List.map_cons, List.map_nil, List.cons_append, List.nil_append, List.length_cons, List.length_nil]
        unfold next
        rw [if_neg (by simp)]
        have b0 : bt (UInt8.ofNat (224 + r / 4096) :: UInt8.ofNat (128 + r / 64 % 64) :: UInt8.ofNat (128 + r % 64) :: t) 0 = 224 + r / 4096 := of8 (by omega)
        have b1 : bt (UInt8.ofNat (224 + r / 4096) :: UInt8.ofNat (128 + r / 64 % 64) :: UInt8.ofNat (128 + r % 64) :: t) 1 = 128 + r / 64 % 64 := of8 (by omega)
        have b2 : bt (UInt8.ofNat (224 + r / 4096) :: UInt8.ofNat (128 + r / 64 % 64) :: UInt8.ofNat (128 + r % 64) :: t) 2 = 128 + r % 64 := of8 (by omega)
        rw [b0, b1, b2]
        have e : (224 + r / 4096 - 224) * 4096 + (128 + r / 64 % 64 - 128) * 64 + (128 + r % 64 - 128) = r := by omega
        unfold nx cont
        rw [e, if_neg (by omega), if_neg (by omega), if_pos ⟨by omega, by omega, by simp, by omega, by omega, by omega, hr'⟩]
      · rw [if_neg h3]
        simp only [List.map_cons, List.map_nil, List.cons_append, List.nil_append, List.length_cons, List.length_nil]
        unfold next
        rw [if_neg (by simp)]
        have b0 : bt (UInt8.ofNat (240 + r / 262144) :: UInt8.ofNat (128 + r / 4096 % 64) :: UInt8.ofNat (128 + r / 64 % 64) :: UInt8.ofNat (128 + r % 64) :: t) 0 = 240 + r / 262144 := of8 (by omega)
        have b1 : bt (UInt8.ofNat (240 + r / 262144) :: UInt8.ofNat (128 + r / 4096 % 64) :: UInt8.ofNat (128 + r / 64 % 64) :: UInt8.ofNat (128 + r % 64) :: t) 1 = 128 + r / 4096 % 64 := of8 (by omega)
        have b2 : bt (UInt8.ofNat (240 + r / 262144) :: UInt8.ofNat (128 + r / 4096 % 64) :: UInt8.ofNat (128 + r / 64 % 64) :: UInt8.ofNat (128 + r % 64) :: t) 2 = 128 + r / 64 % 64 := of8 (by omega)
        have b3 : bt (UInt8.ofNat (240 + r / 262144) :: UInt8.ofNat (128 + r / 4096 % 64) :: UInt8.ofNat (128 + r / 64 % 64) :: UInt8.ofNat (128 + r % 64) :: t) 3 = 128 + r % 64 := of8 (by omega)
        rw [b0, b1, b2, b3]
        have e : (240 + r / 262144 - 240) * 262144 + (128 + r / 4096 % 64 - 128) * 4096 + (128 + r / 64 % 64 - 128) * 64 + (128 + r % 64 - 128) = r := by omega
        unfold nx cont
        rw [e, if_neg (by omega), if_neg (by omega), if_neg (by omega), if_pos ⟨by omega, by omega, by simp, by omega, by omega, by omega, by omega, by omega⟩]
theorem enc_ne (n : Int) : enc n ≠ [] := by have := (enc_length n).2; intro h; rw [h] at this; simp at this
theorem app_ne (n : Int) (t : List UInt8) : enc n ++ t ≠ [] := by simp [enc_ne]
theorem drop_enc (n : Int) (t : List UInt8) : (enc n ++ t).drop (enc n).length = t := by simp
theorem enc_notbad (n : Int) : (rune n == 65533 && (enc n).length == 1) = false := by
  by_cases h : rune n = 65533
  · have : (enc n).length = 3 := by unfold enc; rw [h]; rfl
    rw [this]; simp
  · simp [h]
theorem good_enc (n : Int) (t : List UInt8) : good (enc n ++ t) = good t := by
  rw [good_cons (app_ne n t), next_enc]
  dsimp only
  rw [enc_notbad, drop_enc]; rfl
theorem next_cases {l : List UInt8} (h : l ≠ []) : next l = (65533, 1) ∨ (enc ((next l).1 : Int) = l.take (next l).2 ∧ rune ((next l).1 : Int) = (next l).1) := by
  by_cases hk : ∃ k, 1 ≤ k ∧ k ≤ 4 ∧ k ≤ l.length ∧ rtest l k
  · obtain ⟨k, h1, h4, hl, ht⟩ := hk
    right
    rw [rtest_next hl h1 h4 ht]
    obtain ⟨h0, hr, he⟩ := ht
    dsimp only
    have e : ((rv l k).toNat : Int) = rv l k := by omega
    rw [e]
    refine ⟨he, ?_⟩
    have := rune_self hr
    omega
  · left
    exact rtest_none h fun k h1 h4 hl ht => hk ⟨k, h1, h4, hl, ht⟩
/-- Of a text without a bad byte, each step stands for its rune's bytes. -/
theorem good_take {l : List UInt8} (h : l ≠ []) (hg : good l = true) : l = enc ((next l).1 : Int) ++ l.drop (next l).2 ∧ (enc ((next l).1 : Int)).length = (next l).2 ∧ good (l.drop (next l).2) = true := by
  rw [good_cons h, Bool.and_eq_true] at hg
  obtain ⟨hb, hg⟩ := hg
  rcases next_cases h with hn | ⟨hn, _⟩
  · rw [hn] at hb; simp at hb
  · refine ⟨by rw [hn, List.take_append_drop], ?_, hg⟩
    rw [hn, List.length_take]
    have := (next_bound l).2.2.1
    omega
theorem shown_idem (r : Nat) : shownN (shownN r) = shownN r := by
  by_cases h : (r < 32 ∧ r ≠ 9 ∧ r ≠ 10) ∨ (127 ≤ r ∧ r ≤ 159)
  · have e : shownN r = 65533 := by unfold shownN; rw [if_pos h]
    rw [e]; rfl
  · have e : shownN r = r := by unfold shownN; rw [if_neg h]
    rw [e, e]
theorem rune_shown {m : Nat} (h : shownN m = m) : shownN (rune (m : Int)) = rune (m : Int) := by
  rcases rune_or m with e | e
  · rw [e, h]
  · rw [e]; rfl
theorem clean_enc (m : Nat) (t : List UInt8) (hs : shownN m = m) (h13 : m ≠ 13) : clean (enc m ++ t) = enc m ++ clean t := by
  rw [clean_cons (app_ne _ _), next_enc]
  dsimp only
  rw [drop_enc]
  congr 1
  unfold piece
  rw [next_enc]
  dsimp only
  have : rune (m : Int) ≠ 13 := by rcases rune_or m with e | e <;> omega
  rw [if_neg this, rune_shown hs, enc_of_rune]
/-- What a step writes: nothing, or the bytes of a rune that may be shown, and is not 13. -/
theorem piece_is (l : List UInt8) : piece l = [] ∨ ∃ m : Nat, shownN m = m ∧ m ≠ 13 ∧ piece l = enc (m : Int) := by
  unfold piece
  split
  · split
    · left; rfl
    · right; exact ⟨10, rfl, by decide, rfl⟩
  · rename_i h
    right
    refine ⟨shownN (next l).1, shown_idem _, ?_, rfl⟩
    unfold shownN
    split
    · decide
    · exact h
theorem clean_ind {P : List UInt8 → List UInt8 → Prop} (h0 : P [] []) (h1 : ∀ l t, P l t → ∀ l', P l' t) (h2 : ∀ (l t : List UInt8) (m : Nat), shownN m = m → m ≠ 13 → P l t → ∀ l', P l' (enc m ++ t)) : ∀ (n : Nat) (l : List UInt8), l.length ≤ n → P l (clean l)
  | n, l, h => by
    by_cases hl : l = []
    · subst hl; exact h0
    · have hb := (next_bound l).2.2.2 hl
      have hpos : 1 ≤ l.length := by cases l <;> simp_all
      match n, h with
      | 0, h => omega
      | n + 1, h =>
        have ih := clean_ind h0 h1 h2 n (l.drop (next l).2) (by rw [List.length_drop]; omega)
        rw [clean_cons hl]
        rcases piece_is l with e | ⟨m, a, b, e⟩
        · rw [e, List.nil_append]; exact h1 _ _ ih l
        · rw [e]; exact h2 _ _ m a b ih l
theorem clean_clean (l : List UInt8) : clean (clean l) = clean l :=
  clean_ind (P := fun _ t => clean t = t) rfl (fun _ _ h _ => h) (fun _ t m a b h _ => by rw [clean_enc m t a b, h]) l.length l (Nat.le_refl _)
theorem clean_good (l : List UInt8) : good (clean l) = true :=
  clean_ind (P := fun _ t => good t = true) rfl (fun _ _ h _ => h) (fun _ t m a b h _ => by rw [good_enc, h]) l.length l (Nat.le_refl _)
theorem enc_bytes (m : Nat) (hs : shownN m = m) (h13 : m ≠ 13) : ∀ b ∈ enc (m : Int), 9 ≤ b.toNat ∧ b.toNat ≠ 13 ∧ b.toNat ≠ 127 := by
  intro b hb
  have hm : b.toNat ∈ encN (rune (m : Int)) := by rw [← enc_map]; exact List.mem_map.2 ⟨b, hb, rfl⟩
  have hr := rune_is (m : Int)
  have hs' := rune_shown hs
  have h13' : rune (m : Int) ≠ 13 := by rcases rune_or m with e | e <;> omega
  generalize rune (m : Int) = r at *
  unfold isRune at hr
  unfold encN at hm
  split at hm
  · rw [List.mem_singleton] at hm
    rw [hm]
    unfold shownN at hs'
    split at hs' <;> omega
  · split at hm
    · simp only [List.mem_cons, List.not_mem_nil, or_false] at hm; omega
    · split at hm
      · simp only [List.mem_cons, List.not_mem_nil, or_false] at hm; omega
      · simp only [List.mem_cons, List.not_mem_nil, or_false] at hm; omega
theorem clean_bytes (l : List UInt8) : ∀ b ∈ clean l, 9 ≤ b.toNat ∧ b.toNat ≠ 13 ∧ b.toNat ≠ 127 :=
  clean_ind (P := fun _ t => ∀ b ∈ t, 9 ≤ b.toNat ∧ b.toNat ≠ 13 ∧ b.toNat ≠ 127) (fun b hb => by simp at hb) (fun _ _ h _ => h)
    (fun _ t m a b h _ x hx => by
      rcases List.mem_append.1 hx with hx | hx
      · exact enc_bytes m a b x hx
      · exact h x hx) l.length l (Nat.le_refl _)
theorem front_le : ∀ (n : Nat) (l : List UInt8) (m : Int), l.length ≤ n → front l m ≤ l.length ∧ (front l m = 0 ∨ (front l m : Int) ≤ m)
  | n, l, m, h => by
    by_cases hl : l = []
    · subst hl; rw [front_nil]; simp
    · have hb := (next_bound l).2.2.2 hl
      have hb2 := (next_bound l).2.2.1
      match n, h with
      | 0, h => have : 1 ≤ l.length := by cases l <;> simp_all
                omega
      | n + 1, h =>
        have ih := front_le n (l.drop (next l).2) (m - (next l).2) (by rw [List.length_drop]; omega)
        rw [List.length_drop] at ih
        rw [front_cons m hl]
        split
        · simp
        · omega
theorem front_good : ∀ (n : Nat) (l : List UInt8) (m : Int), l.length ≤ n → good l = true → good (l.take (front l m)) = true
  | n, l, m, h, hg => by
    by_cases hl : l = []
    · subst hl; rw [front_nil]; rfl
    · have hb := (next_bound l).2.2.2 hl
      have hb2 := (next_bound l).2.2.1
      match n, h with
      | 0, h => have : 1 ≤ l.length := by cases l <;> simp_all
                omega
      | n + 1, h =>
        obtain ⟨h1, h2, h3⟩ := good_take hl hg
        have ih := front_good n (l.drop (next l).2) (m - (next l).2) (by rw [List.length_drop]; omega) h3
        rw [front_cons m hl]
        split
        · rfl
        · have e : l.take ((next l).2 + front (l.drop (next l).2) (m - (next l).2)) = enc ((next l).1 : Int) ++ (l.drop (next l).2).take (front (l.drop (next l).2) (m - (next l).2)) := by
            generalize hd : l.drop (next l).2 = d at *
            rw [← h2]
            generalize enc ((next l).1 : Int) = x at *
            rw [h1]
            simp [List.take_append]
            exact List.take_of_length_le (by omega)
          rw [e, good_enc, ih]
def joined (rs : List Nat) : List UInt8 := (rs.map fun (r : Nat) => enc (r : Int)).flatten
theorem joined_good : ∀ (n : Nat) (l : List UInt8), l.length ≤ n → good l = true → joined (runes l) = l
  | n, l, h, hg => by
    by_cases hl : l = []
    · subst hl; rfl
    · have hb := (next_bound l).2.2.2 hl
      match n, h with
      | 0, h => have : 1 ≤ l.length := by cases l <;> simp_all
                omega
      | n + 1, h =>
        obtain ⟨h1, h2, h3⟩ := good_take hl hg
        have ih := joined_good n (l.drop (next l).2) (by rw [List.length_drop]; omega) h3
        rw [runes_cons hl]
        unfold joined at ih ⊢
        rw [List.map_cons, List.flatten_cons, ih, ← h1]
end Go.Proofs.Ytlogjghbdnaedaa
