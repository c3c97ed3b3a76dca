/- Plain: what is written in a JSON string comes back, is UTF-8, and has no byte that ends it. -/
import Derived.Test.YtlogjghbdnaedaaOctSpec
namespace Go.Proofs.Ytlogjghbdnaedaa
set_option linter.unusedVariables false
set_option linter.unusedSimpArgs false
theorem readF_more : ∀ (f g : Nat) (l : List UInt8), l.length ≤ f → l.length ≤ g → readF f l = readF g l
  | 0, 0, _, _, _ => rfl
  | 0, g + 1, l, hf, _ => by
    have : l = [] := List.length_eq_zero_iff.1 (by omega)
    subst this; simp [readF]
  | f + 1, 0, l, _, hg => by
    have : l = [] := List.length_eq_zero_iff.1 (by omega)
    subst this; simp [readF]
  | f + 1, g + 1, l, hf, hg => by
    unfold readF
    split
    · rfl
    · split
      · rfl
      · rename_i r n h
        have hb := oneJ_bound h
        rw [readF_more f g (l.drop n) (by rw [List.length_drop]; omega) (by rw [List.length_drop]; omega)]
theorem readJ_nil : readJ [] = some [] := rfl
theorem readJ_none {l : List UInt8} (h0 : l ≠ []) (h : oneJ l = none) : readJ l = none := by
  unfold readJ
  obtain ⟨k, hk⟩ : ∃ k, l.length = k + 1 := ⟨l.length - 1, by have := List.length_pos_iff.2 h0; omega⟩
  rw [hk, readF, if_neg h0, h]
theorem readJ_some {l : List UInt8} {r n : Nat} (h0 : l ≠ []) (h : oneJ l = some (r, n)) : readJ l = (readJ (l.drop n)).map (enc r ++ ·) := by
  unfold readJ
  obtain ⟨k, hk⟩ : ∃ k, l.length = k + 1 := ⟨l.length - 1, by have := List.length_pos_iff.2 h0; omega⟩
  rw [hk, readF, if_neg h0, h]
  have hb := oneJ_bound h
  dsimp only
  rw [readF_more k (l.drop n).length (l.drop n) (by rw [List.length_drop]; omega) (Nat.le_refl _)]
theorem wth_hexd (x : Nat) (h : x < 16) : wth (hexd x) = x := by
  unfold wth hexd
  by_cases h1 : x < 10
  · rw [if_pos h1, if_pos (by omega)]; omega
  · rw [if_neg h1, if_neg (by omega), if_pos (by omega)]; omega
theorem hexd_lt (x : Nat) (h : x < 16) : 48 ≤ hexd x ∧ hexd x ≤ 70 ∧ hexd x ≠ 60 ∧ hexd x ≠ 62 := by
  unfold hexd; split <;> omega
theorem bt_c0 (c : UInt8) (t : List UInt8) : bt (c :: t) 0 = c.toNat := by simp [bt]
theorem bt_cs (c : UInt8) (t : List UInt8) (i : Nat) : bt (c :: t) (i + 1) = bt t i := by simp [bt]
theorem letR_letN {n : Nat} (h : letN n ≠ 0) : letR (letN n) = n ∧ letN n < 128 ∧ 34 ≤ letN n ∧ letN n ≠ 38 ∧ letN n ≠ 60 ∧ letN n ≠ 62 ∧ letN n ≠ 127 ∧ letN n ≠ 117 := by
  unfold letN at h ⊢
  split
  · rename_i h1
    rcases h1 with rfl | rfl <;> decide
  rw [if_neg (by assumption)] at h
  split
  · rename_i h1; subst h1; decide
  rw [if_neg (by assumption)] at h
  split
  · rename_i h1; subst h1; decide
  rw [if_neg (by assumption)] at h
  split
  · rename_i h1; subst h1; decide
  rw [if_neg (by assumption)] at h
  split
  · rename_i h1; subst h1; decide
  rw [if_neg (by assumption)] at h
  split
  · rename_i h1; subst h1; decide
  rw [if_neg (by assumption)] at h
  exact absurd rfl h
theorem letN_special {n : Nat} (h : letN n = 0) : n ≠ 34 ∧ n ≠ 92 := by
  refine ⟨?_, ?_⟩ <;> (rintro rfl; exact absurd h (by decide))
theorem wrJ_short {n : Nat} (h : letN n ≠ 0) : wrJ n = [92, UInt8.ofNat (letN n)] := by unfold wrJ; rw [if_pos h]
theorem wrJ_long {n : Nat} (h : letN n = 0) (h2 : longN n) : wrJ n = [92, 117, UInt8.ofNat (hexd (n / 256 / 16)), UInt8.ofNat (hexd (n / 256 % 16)), UInt8.ofNat (hexd (n % 256 / 16)), UInt8.ofNat (hexd (n % 256 % 16))] := by
  unfold wrJ; rw [if_neg (by simpa using h), if_pos h2]; rfl
theorem wrJ_self {n : Nat} (h : letN n = 0) (h2 : ¬ longN n) : wrJ n = enc n := by
  unfold wrJ; rw [if_neg (by simpa using h), if_neg h2]
theorem longN_lt {n : Nat} (h : longN n) : n < 8234 := by unfold longN at h; omega
theorem unitAt_digits (a b c d : Nat) (t : List UInt8) (ha : a < 16) (hb : b < 16) (hc : c < 16) (hd : d < 16) :
    unitAt (92 :: 117 :: UInt8.ofNat (hexd a) :: UInt8.ofNat (hexd b) :: UInt8.ofNat (hexd c) :: UInt8.ofNat (hexd d) :: t) 0 = some (256 * (16 * a + b) + (16 * c + d)) := by
  have ga := hexd_lt a ha
  have gb := hexd_lt b hb
  have gc := hexd_lt c hc
  have gd := hexd_lt d hd
  have b2 : bt (92 :: 117 :: UInt8.ofNat (hexd a) :: UInt8.ofNat (hexd b) :: UInt8.ofNat (hexd c) :: UInt8.ofNat (hexd d) :: t) 2 = hexd a := of8 (by omega)
  have b3 : bt (92 :: 117 :: UInt8.ofNat (hexd a) :: UInt8.ofNat (hexd b) :: UInt8.ofNat (hexd c) :: UInt8.ofNat (hexd d) :: t) 3 = hexd b := of8 (by omega)
  have b4 : bt (92 :: 117 :: UInt8.ofNat (hexd a) :: UInt8.ofNat (hexd b) :: UInt8.ofNat (hexd c) :: UInt8.ofNat (hexd d) :: t) 4 = hexd c := of8 (by omega)
  have b5 : bt (92 :: 117 :: UInt8.ofNat (hexd a) :: UInt8.ofNat (hexd b) :: UInt8.ofNat (hexd c) :: UInt8.ofNat (hexd d) :: t) 5 = hexd d := of8 (by omega)
  unfold unitAt
  rw [if_pos ⟨rfl, rfl⟩]
  unfold byteAt
  simp only [Nat.zero_add, Nat.reduceAdd]
  rw [b2, b3, b4, b5, wth_hexd a ha, wth_hexd b hb, wth_hexd c hc, wth_hexd d hd]
  rw [if_pos ⟨by simp, ha, hb⟩, if_pos ⟨by simp, hc, hd⟩]
theorem enc_head {n : Nat} (hr : isRune (n : Int)) (t : List UInt8) : (n < 128 ∧ bt (enc n ++ t) 0 = n) ∨ (128 ≤ n ∧ 192 ≤ bt (enc n ++ t) 0) := by
  have e : rune (n : Int) = n := by have := rune_self hr; omega
  unfold isRune at hr
  unfold enc
  rw [e]
  unfold encN
  by_cases h1 : n < 128
  · rw [if_pos h1]; left; exact ⟨h1, of8 (by omega)⟩
  right
  refine ⟨by omega, ?_⟩
  rw [if_neg h1]
  by_cases h2 : n < 2048
  · rw [if_pos h2]
    simp only [List.map_cons, List.cons_append, bt_c0]
    rw [of8 (by omega)]; omega
  rw [if_neg h2]
  by_cases h3 : n < 65536
  · rw [if_pos h3]
    simp only [List.map_cons, List.cons_append, bt_c0]
    rw [of8 (by omega)]; omega
  rw [if_neg h3]
  simp only [List.map_cons, List.cons_append, bt_c0]
  rw [of8 (by omega)]; omega
/-- What is written comes back. -/
theorem oneJ_wr {n : Nat} (hr : isRune (n : Int)) (t : List UInt8) : oneJ (wrJ n ++ t) = some (n, (wrJ n).length) := by
  have e : rune (n : Int) = n := by have := rune_self hr; omega
  by_cases h1 : letN n = 0
  · by_cases h2 : longN n
    · have h3 := longN_lt h2
      rw [wrJ_long h1 h2]
      simp only [List.cons_append, List.nil_append]
      unfold oneJ
      rw [if_neg (by simp), if_pos (by rfl)]
      unfold escJ
      have b1 : letR (bt (92 :: 117 :: UInt8.ofNat (hexd (n / 256 / 16)) :: UInt8.ofNat (hexd (n / 256 % 16)) :: UInt8.ofNat (hexd (n % 256 / 16)) :: UInt8.ofNat (hexd (n % 256 % 16)) :: t) 1) = 0 := rfl
      rw [b1, if_neg (by simp), unitAt_digits _ _ _ _ _ (by omega) (by omega) (by omega) (by omega)]
      have e2 : 256 * (16 * (n / 256 / 16) + n / 256 % 16) + (16 * (n % 256 / 16) + n % 256 % 16) = n := by omega
      rw [e2]
      dsimp only
      rw [if_neg (by omega), if_neg (by omega)]
      rfl
    · rw [wrJ_self h1 h2]
      have hs := letN_special h1
      have hh := enc_head hr t
      have hb := enc_notbad (n : Int)
      unfold longN at h2
      unfold oneJ
      rw [if_neg (app_ne _ _), if_neg (by omega), next_enc, e]
      rw [e] at hb
      dsimp only
      rw [if_neg]
      rintro (h | h | h)
      · omega
      · omega
      · rw [h.2, h.1] at hb; exact absurd hb (by decide)
  · rw [wrJ_short h1]
    have hl := letR_letN h1
    simp only [List.cons_append, List.nil_append]
    unfold oneJ
    rw [if_neg (by simp), if_pos (by rfl)]
    unfold escJ
    have b1 : bt (92 :: UInt8.ofNat (letN n) :: t) 1 = letN n := of8 (by omega)
    have hn : n ≠ 0 := by rintro rfl; exact h1 (by decide)
    rw [b1, hl.1, if_pos hn]
    rfl
theorem wrJ_length (n : Nat) : (wrJ n).length ≤ 6 ∧ 1 ≤ (wrJ n).length := by
  by_cases h1 : letN n = 0
  · by_cases h2 : longN n
    · rw [wrJ_long h1 h2]; simp
    · rw [wrJ_self h1 h2]; have := enc_length (n : Int); omega
  · rw [wrJ_short h1]; simp
theorem read_wr : ∀ (rs : List Nat), (∀ r ∈ rs, isRune (r : Int)) → readJ (rs.flatMap wrJ) = some (joined rs)
  | [], _ => rfl
  | r :: rs, h => by
    rw [List.flatMap_cons]
    have hl := wrJ_length r
    have h0 : wrJ r ++ rs.flatMap wrJ ≠ [] := by
      intro e
      have := congrArg List.length e
      rw [List.length_append, List.length_nil] at this; omega
    rw [readJ_some h0 (oneJ_wr (h r (by simp)) _)]
    rw [List.drop_left, read_wr rs (fun x hx => h x (by simp [hx]))]
    rfl
theorem runes_rune : ∀ (n : Nat) (l : List UInt8), l.length ≤ n → ∀ r ∈ runes l, isRune (r : Int)
  | n, [], _, r, hr => by rw [runes_nil] at hr; cases hr
  | 0, _ :: _, h, _, _ => by simp at h
  | n + 1, a :: t, h, r, hr => by
    have hne : a :: t ≠ [] := by simp
    rw [runes_cons hne] at hr
    rcases List.mem_cons.1 hr with rfl | hr
    · exact next_rune_ hne
    · have hb := (next_bound (a :: t)).2.2.2 hne
      exact runes_rune n _ (by rw [List.length_drop]; simp only [List.length_cons] at *; omega) r hr
theorem read_write (l : List UInt8) : readJ (writeJ l) = some (joined (runes l)) := read_wr _ (runes_rune _ l (Nat.le_refl _))
theorem good_ascii {b : UInt8} (h : b.toNat < 128) (t : List UInt8) : good (b :: t) = good t := by
  have hr : isRune ((b.toNat : Nat) : Int) := by unfold isRune; omega
  have e : enc (b.toNat : Int) = [b] := by
    unfold enc
    have : rune ((b.toNat : Nat) : Int) = b.toNat := by have := rune_self hr; omega
    rw [this]; unfold encN; rw [if_pos h]; simp
  have := good_enc (b.toNat : Int) t
  rwa [e] at this
theorem good_wr (n : Nat) (t : List UInt8) : good (wrJ n ++ t) = good t := by
  by_cases h1 : letN n = 0
  · by_cases h2 : longN n
    · have h3 := longN_lt h2
      have ga := hexd_lt (n / 256 / 16) (by omega)
      have gb := hexd_lt (n / 256 % 16) (by omega)
      have gc := hexd_lt (n % 256 / 16) (by omega)
      have gd := hexd_lt (n % 256 % 16) (by omega)
      rw [wrJ_long h1 h2]
      simp only [List.cons_append, List.nil_append]
      rw [good_ascii (by decide), good_ascii (by decide), good_ascii (by rw [of8 (by omega)]; omega), good_ascii (by rw [of8 (by omega)]; omega),
        good_ascii (by rw [of8 (by omega)]; omega), good_ascii (by rw [of8 (by omega)]; omega)]
    · rw [wrJ_self h1 h2, good_enc]
  · rw [wrJ_short h1]
    have hl := letR_letN h1
    simp only [List.cons_append, List.nil_append]
    rw [good_ascii (by decide), good_ascii (by rw [of8 (by omega)]; omega)]
theorem good_wrs : ∀ rs : List Nat, good (rs.flatMap wrJ) = true
  | [] => good_nil
  | r :: rs => by rw [List.flatMap_cons, good_wr, good_wrs rs]
theorem good_write (l : List UInt8) : good (writeJ l) = true := good_wrs _
/-- A byte that may stand in a JSON string on a page. -/
def tame (c : Nat) : Prop := 32 ≤ c ∧ c ≠ 38 ∧ c ≠ 60 ∧ c ≠ 62 ∧ c ≠ 127
theorem enc_tame {n : Nat} (hr : isRune (n : Int)) (h : ¬ longN n) : ∀ b ∈ enc (n : Int), tame b.toNat := by
  have e : rune (n : Int) = n := by have := rune_self hr; omega
  unfold longN at h
  unfold isRune at hr
  unfold enc
  rw [e]
  intro b hb
  obtain ⟨k, hk, rfl⟩ := List.mem_map.1 hb
  unfold tame
  unfold encN at hk
  by_cases h1 : n < 128
  · rw [if_pos h1] at hk
    simp only [List.mem_singleton] at hk
    subst hk
    rw [of8 (by omega)]; omega
  rw [if_neg h1] at hk
  by_cases h2 : n < 2048
  · rw [if_pos h2] at hk
    simp only [List.mem_cons, List.not_mem_nil, or_false] at hk
    rw [of8 (by omega)]; omega
  rw [if_neg h2] at hk
  by_cases h3 : n < 65536
  · rw [if_pos h3] at hk
    simp only [List.mem_cons, List.not_mem_nil, or_false] at hk
    rw [of8 (by omega)]; omega
  rw [if_neg h3] at hk
  simp only [List.mem_cons, List.not_mem_nil, or_false] at hk
  rw [of8 (by omega)]; omega
theorem wr_tame {n : Nat} (hr : isRune (n : Int)) : ∀ b ∈ wrJ n, tame b.toNat := by
  by_cases h1 : letN n = 0
  · by_cases h2 : longN n
    · have h3 := longN_lt h2
      have ga := hexd_lt (n / 256 / 16) (by omega)
      have gb := hexd_lt (n / 256 % 16) (by omega)
      have gc := hexd_lt (n % 256 / 16) (by omega)
      have gd := hexd_lt (n % 256 % 16) (by omega)
      rw [wrJ_long h1 h2]
      intro b hb
      simp only [List.mem_cons, List.not_mem_nil, or_false] at hb
      unfold tame
      rcases hb with rfl | rfl | rfl | rfl | rfl | rfl
      · decide
      · decide
      all_goals rw [of8 (by omega)]; omega
    · rw [wrJ_self h1 h2]; exact enc_tame hr h2
  · rw [wrJ_short h1]
    have hl := letR_letN h1
    intro b hb
    simp only [List.mem_cons, List.not_mem_nil, or_false] at hb
    unfold tame
    rcases hb with rfl | rfl
    · decide
    · rw [of8 (by omega)]; omega
theorem write_tame (l : List UInt8) : ∀ b ∈ writeJ l, tame b.toNat := by
  intro b hb
  obtain ⟨r, hr, hb⟩ := List.mem_flatMap.1 hb
  exact wr_tame (runes_rune _ l (Nat.le_refl _) r hr) b hb
theorem flat_length (rs : List Nat) : (rs.flatMap wrJ).length ≤ 6 * rs.length := by
  induction rs with
  | nil => simp
  | cons r rs ih => rw [List.flatMap_cons, List.length_append, List.length_cons]; have := (wrJ_length r).1; omega
theorem write_length (l : List UInt8) : (writeJ l).length ≤ 6 * l.length := by
  have := flat_length (runes l)
  have h := runes_length_le l
  unfold writeJ; omega
end Go.Proofs.Ytlogjghbdnaedaa
