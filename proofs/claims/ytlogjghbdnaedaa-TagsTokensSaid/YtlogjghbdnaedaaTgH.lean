/- Plain: what chapter 6 writes stays in its text, or in its value (TagsHolds). -/
import Derived.Test.YtlogjghbdnaedaaTgP
import Derived.Test.YtlogjghbdnaedaaQuoP
namespace Go.Proofs.Ytlogjghbdnaedaa
set_option linter.unusedVariables false
set_option linter.unusedSimpArgs false
/-- What a byte is written as. -/
def escE (attr : Bool) (c : UInt8) : List UInt8 :=
  if c.toNat = 38 then [38, 97, 109, 112, 59] else if c.toNat = 60 then [38, 108, 116, 59] else if c.toNat = 62 then [38, 103, 116, 59]
  else if c.toNat = 34 then [38, 113, 117, 111, 116, 59] else if c.toNat = 39 then [38, 35, 51, 57, 59]
  else if attr = true ∧ c.toNat = 9 then [38, 35, 57, 59] else if attr = true ∧ c.toNat = 10 then [38, 35, 49, 48, 59] else [c]
def wrE (attr : Bool) (l : List UInt8) : List UInt8 := l.flatMap (escE attr)
theorem wrE_nil (attr : Bool) : wrE attr [] = [] := rfl
theorem wrE_cons (attr : Bool) (c : UInt8) (t : List UInt8) : wrE attr (c :: t) = escE attr c ++ wrE attr t := by unfold wrE; rw [List.flatMap_cons]
theorem wrE_app (attr : Bool) (a b : List UInt8) : wrE attr (a ++ b) = wrE attr a ++ wrE attr b := by unfold wrE; rw [List.flatMap_append]
theorem escE_len (attr : Bool) (c : UInt8) : 1 ≤ (escE attr c).length ∧ (escE attr c).length ≤ 6 := by
  unfold escE
  repeat' split
  all_goals simp
theorem wrE_len (attr : Bool) : ∀ l : List UInt8, (wrE attr l).length ≤ 6 * l.length
  | [] => by simp [wrE]
  | c :: t => by
    rw [wrE_cons, List.length_append, List.length_cons]
    have := wrE_len attr t
    have := escE_len attr c
    omega
theorem u8_eq {c : UInt8} {n : Nat} (h : c.toNat = n) : c = UInt8.ofNat n := by rw [← h]; simp
theorem numR_dig (l : List UInt8) {v m : Nat} (h : numD 10 7 0 l = (v, m)) (hv : 0 < v ∧ isRune (v : Int)) (h2 : bt l m = 59) : numR 10 7 l = some (v, m + 1) := by
  unfold numR
  rw [h]
  dsimp only
  rw [if_pos ⟨hv.1, hv.2, h2⟩]
theorem isRune_small {v : Nat} (h : v < 128) : isRune (v : Int) := by unfold isRune; omega
/-- One byte as it is written, ahead of anything, says itself. -/
theorem say_esc {attr : Bool} {e b : Nat} (he : (e = 60 ∧ b = 62) ∨ (e = 34 ∧ b = 60)) (c : UInt8) (x : List UInt8) :
    sayJ e b (escE attr c ++ x) = (sayJ e b x).map fun p => (c :: p.1, (escE attr c).length + p.2) := by
  have step : ∀ (y : List UInt8) (n : Nat) (t : List UInt8), refJ ((38 : UInt8) :: t) = some (y, n) → sayJ e b ((38 : UInt8) :: t) = (sayJ e b (((38 : UInt8) :: t).drop n)).map fun p => (y ++ p.1, n + p.2) := by
    intro y n t h
    rw [sayJ_cons, if_neg (by show (38 : Nat) ≠ e; omega), if_neg (by show (38 : Nat) ≠ b; omega), if_pos (by rfl), h]
  unfold escE
  split
  · rename_i h
    obtain rfl := u8_eq h
    rw [List.cons_append, step [38] 5 _ (by rfl)]; rfl
  split
  · rename_i h
    obtain rfl := u8_eq h
    rw [List.cons_append, step [60] 4 _ (by rfl)]; rfl
  split
  · rename_i h
    obtain rfl := u8_eq h
    rw [List.cons_append, step [62] 4 _ (by rfl)]; rfl
  split
  · rename_i h
    obtain rfl := u8_eq h
    rw [List.cons_append, step [34] 6 _ (by rfl)]; rfl
  split
  · rename_i h
    obtain rfl := u8_eq h
    have hn : numR 10 7 (51 :: 57 :: 59 :: x) = some (39, 3) := numR_dig _ (by rfl) ⟨by omega, isRune_small (by omega)⟩ (by rfl)
    have hr : refJ ((38 : UInt8) :: 35 :: 51 :: 57 :: 59 :: x) = some ([39], 5) := by
      unfold refJ
      rw [show atS ((38 : UInt8) :: 35 :: 51 :: 57 :: 59 :: x) sAmp 0 = false from rfl, show atS ((38 : UInt8) :: 35 :: 51 :: 57 :: 59 :: x) sLt 0 = false from rfl, show atS ((38 : UInt8) :: 35 :: 51 :: 57 :: 59 :: x) sGt 0 = false from rfl, show atS ((38 : UInt8) :: 35 :: 51 :: 57 :: 59 :: x) sQuot 0 = false from rfl, show atS ((38 : UInt8) :: 35 :: 51 :: 57 :: 59 :: x) sHex 0 = false from rfl, show atS ((38 : UInt8) :: 35 :: 51 :: 57 :: 59 :: x) sNum 0 = true from rfl]
      show (numR 10 7 (51 :: 57 :: 59 :: x)).map (fun p => (enc (p.1 : Int), 2 + p.2)) = _
      rw [hn]; rfl
    show sayJ e b ((38 : UInt8) :: 35 :: 51 :: 57 :: 59 :: x) = _
    rw [step [39] 5 _ hr]; rfl
  split
  · rename_i h
    obtain rfl := u8_eq h.2
    have hn : numR 10 7 (57 :: 59 :: x) = some (9, 2) := numR_dig _ (by rfl) ⟨by omega, isRune_small (by omega)⟩ (by rfl)
    have hr : refJ ((38 : UInt8) :: 35 :: 57 :: 59 :: x) = some ([9], 4) := by
      unfold refJ
      rw [show atS ((38 : UInt8) :: 35 :: 57 :: 59 :: x) sAmp 0 = false from rfl, show atS ((38 : UInt8) :: 35 :: 57 :: 59 :: x) sLt 0 = false from rfl, show atS ((38 : UInt8) :: 35 :: 57 :: 59 :: x) sGt 0 = false from rfl, show atS ((38 : UInt8) :: 35 :: 57 :: 59 :: x) sQuot 0 = false from rfl, show atS ((38 : UInt8) :: 35 :: 57 :: 59 :: x) sHex 0 = false from rfl, show atS ((38 : UInt8) :: 35 :: 57 :: 59 :: x) sNum 0 = true from rfl]
      show (numR 10 7 (57 :: 59 :: x)).map (fun p => (enc (p.1 : Int), 2 + p.2)) = _
      rw [hn]; rfl
    show sayJ e b ((38 : UInt8) :: 35 :: 57 :: 59 :: x) = _
    rw [step [9] 4 _ hr]; rfl
  split
  · rename_i h
    obtain rfl := u8_eq h.2
    have hn : numR 10 7 (49 :: 48 :: 59 :: x) = some (10, 3) := numR_dig _ (by rfl) ⟨by omega, isRune_small (by omega)⟩ (by rfl)
    have hr : refJ ((38 : UInt8) :: 35 :: 49 :: 48 :: 59 :: x) = some ([10], 5) := by
      unfold refJ
      rw [show atS ((38 : UInt8) :: 35 :: 49 :: 48 :: 59 :: x) sAmp 0 = false from rfl, show atS ((38 : UInt8) :: 35 :: 49 :: 48 :: 59 :: x) sLt 0 = false from rfl, show atS ((38 : UInt8) :: 35 :: 49 :: 48 :: 59 :: x) sGt 0 = false from rfl, show atS ((38 : UInt8) :: 35 :: 49 :: 48 :: 59 :: x) sQuot 0 = false from rfl, show atS ((38 : UInt8) :: 35 :: 49 :: 48 :: 59 :: x) sHex 0 = false from rfl, show atS ((38 : UInt8) :: 35 :: 49 :: 48 :: 59 :: x) sNum 0 = true from rfl]
      show (numR 10 7 (49 :: 48 :: 59 :: x)).map (fun p => (enc (p.1 : Int), 2 + p.2)) = _
      rw [hn]; rfl
    show sayJ e b ((38 : UInt8) :: 35 :: 49 :: 48 :: 59 :: x) = _
    rw [step [10] 5 _ hr]; rfl
  · rename_i h1 h2 h3 h4 h5 h6 h7
    rw [List.cons_append, List.nil_append, sayJ_cons, if_neg (by omega), if_neg (by omega), if_neg h1]
    rfl
theorem say_wr {attr : Bool} {e b : Nat} (he : (e = 60 ∧ b = 62) ∨ (e = 34 ∧ b = 60)) (c : UInt8) (hc : c.toNat = e) (x : List UInt8) : ∀ l : List UInt8, sayJ e b (wrE attr l ++ c :: x) = some (l, (wrE attr l).length)
  | [] => by rw [wrE_nil, List.nil_append, sayJ_cons, if_pos hc]; rfl
  | d :: t => by
    rw [wrE_cons, List.append_assoc, say_esc he, say_wr he c hc x t]
    simp
theorem escE_high {attr : Bool} {c : UInt8} (h : 128 ≤ c.toNat) : escE attr c = [c] := by
  unfold escE
  rw [if_neg (by omega), if_neg (by omega), if_neg (by omega), if_neg (by omega), if_neg (by omega), if_neg (by omega), if_neg (by omega)]
theorem wrE_high {attr : Bool} : ∀ {l : List UInt8}, (∀ b ∈ l, 128 ≤ b.toNat) → wrE attr l = l
  | [], _ => rfl
  | c :: t, h => by
    rw [wrE_cons, escE_high (h c (by simp)), wrE_high fun b hb => h b (by simp [hb])]; rfl
theorem good_low_app : ∀ (l : List UInt8), (∀ b ∈ l, b.toNat < 128) → ∀ x, good (l ++ x) = good x
  | [], _, x => rfl
  | c :: t, h, x => by rw [List.cons_append, good_ascii (h c (by simp)), good_low_app t (fun b hb => h b (by simp [hb])) x]
theorem escE_low {attr : Bool} {c : UInt8} (h : c.toNat < 128) : ∀ b ∈ escE attr c, b.toNat < 128 := by
  unfold escE
  repeat' split
  all_goals (intro b hb; simp at hb; first | (rcases hb with rfl | rfl | rfl | rfl | rfl | rfl <;> decide) | (rcases hb with rfl | rfl | rfl | rfl | rfl <;> decide) | (rcases hb with rfl | rfl | rfl | rfl <;> decide) | (rw [hb]; exact h))
theorem enc_low {n : Nat} (h : n < 128) : enc (n : Int) = [UInt8.ofNat n] := by
  have hr : rune (n : Int) = n := by unfold rune; rw [if_pos (isRune_small h)]; rfl
  unfold enc
  rw [hr]
  unfold encN
  rw [if_pos h]; rfl
theorem enc_high {n : Nat} (h : 128 ≤ rune (n : Int)) : ∀ b ∈ enc (n : Int), 128 ≤ b.toNat := by
  unfold enc
  have ht : rune (n : Int) ≤ 1114111 := by have := rune_is (n : Int); unfold isRune at this; omega
  generalize rune (n : Int) = r at *
  unfold encN
  intro b hb
  rw [if_neg (by omega)] at hb
  split at hb
  · simp only [List.map_cons, List.map_nil, List.mem_cons, List.not_mem_nil, or_false] at hb
    rcases hb with rfl | rfl <;> (rw [of8 (by omega)]; omega)
  split at hb
  · simp only [List.map_cons, List.map_nil, List.mem_cons, List.not_mem_nil, or_false] at hb
    rcases hb with rfl | rfl | rfl <;> (rw [of8 (by omega)]; omega)
  · simp only [List.map_cons, List.map_nil, List.mem_cons, List.not_mem_nil, or_false] at hb
    rcases hb with rfl | rfl | rfl | rfl <;> (rw [of8 (by omega)]; omega)
theorem good_wrE (attr : Bool) (x : List UInt8) : ∀ (m : Nat) (l : List UInt8), l.length ≤ m → good l = true → good (wrE attr l ++ x) = good x
  | m, [], _, _ => rfl
  | 0, _ :: _, h, _ => by simp at h
  | m + 1, c :: t, hm, hg => by
    have hne : c :: t ≠ [] := by simp
    obtain ⟨h1, h2, h3⟩ := good_take hne hg
    have hb := next_bound (c :: t)
    have hb4 := hb.2.2.2 hne
    have hle : ((c :: t).drop (next (c :: t)).2).length ≤ m := by rw [List.length_drop]; simp only [List.length_cons] at *; omega
    rw [h1, wrE_app, List.append_assoc]
    have ih := good_wrE attr x m _ hle h3
    generalize (c :: t).drop (next (c :: t)).2 = u at *
    generalize (next (c :: t)).1 = r at *
    by_cases hr : rune (r : Int) < 128
    · rw [← enc_of_rune, enc_low hr]
      rw [wrE_cons, wrE_nil, List.append_nil, good_low_app _ (escE_low (by rw [of8 (by omega)]; exact hr))]
      exact ih
    · rw [wrE_high (enc_high (by omega)), good_enc]
      exact ih
theorem runN_stop {P : Nat → Bool} : ∀ (a x : List UInt8), (∀ b ∈ a, P b.toNat = true) → P (bt x 0) = false → runN P (a ++ x) = a.length
  | [], x, _, h => by
    cases x with
    | nil => rfl
    | cons c t => rw [List.nil_append, runN_cons, show P c.toNat = false from h]; rfl
  | c :: t, x, ha, h => by
    rw [List.cons_append, runN_cons, if_pos (ha c (by simp)), runN_stop t x (fun b hb => ha b (by simp [hb])) h, List.length_cons]; omega
theorem runE_app {P : Nat → Bool} (p a x : List UInt8) (ha : ∀ b ∈ a, P b.toNat = true) (h : P (bt x 0) = false) : runE P (p ++ (a ++ x)) p.length = p.length + a.length := by
  unfold runE
  rw [List.drop_left, runN_stop a x ha h]
theorem runT_app {P : Nat → Bool} (p a x : List UInt8) (ha : ∀ b ∈ a, P b.toNat = true) (h : P (bt x 0) = false) : runT P (p ++ (a ++ x)) p.length = a := by
  unfold runT
  rw [runE_app p a x ha h, List.drop_left, Nat.add_sub_cancel_left, List.take_left]
theorem bt_app (p x : List UInt8) (i : Nat) : bt (p ++ x) (p.length + i) = bt x i := by rw [← bt_drop, List.drop_left]
theorem atS_app (p x a : List UInt8) : atS (p ++ x) a p.length = decide (x.take a.length = a) := by
  unfold atS
  rw [List.drop_left, decide_eq_true (by simp)]; rfl
/-- The page of a text between tags. -/
def pgT (s : List UInt8) : List UInt8 := [60, 112, 62] ++ (wrE false s ++ [60, 47, 112, 62])
theorem pgT_tags {s : List UInt8} (hs : s ≠ []) (hg : good s = true) : tagsJ (pgT s) = some [⟨111, [112], [], [], 0, 3⟩, ⟨116, [], s, [], 3, 3 + (wrE false s).length⟩, ⟨99, [112], [], [], 3 + (wrE false s).length, 3 + (wrE false s).length + 4⟩] := by
  unfold tagsJ
  have hgood : good (pgT s) = true := by
    unfold pgT
    rw [good_low_app _ (by decide), good_wrE false _ _ s (Nat.le_refl _) hg]
    rfl
  rw [if_pos hgood]
  obtain ⟨W, hW⟩ : ∃ W, wrE false s = W := ⟨_, rfl⟩
  have hWn : 1 ≤ W.length := by
    rw [← hW]
    obtain ⟨c, t, rfl⟩ := List.exists_cons_of_ne_nil hs
    rw [wrE_cons, List.length_append]
    have := escE_len false c
    omega
  have hsay := say_wr (attr := false) (.inl ⟨rfl, rfl⟩) (60 : UInt8) rfl [47, 112, 62] s
  rw [hW] at hsay
  have hlen : (pgT s).length = 7 + W.length := by unfold pgT; rw [hW]; simp; omega
  have hP : pgT s = [60, 112, 62] ++ (W ++ [60, 47, 112, 62]) := by unfold pgT; rw [hW]
  have hP2 : pgT s = ([60, 112, 62] ++ W) ++ [60, 47, 112, 62] := by rw [hP, List.append_assoc]
  have hq : ([60, 112, 62] ++ W : List UInt8).length = 3 + W.length := by simp; omega
  have h1 : oneG (pgT s) 0 = some ⟨111, [112], [], [], 0, 3⟩ := by rw [hP]; rfl
  have h60 : bt (pgT s) 3 ≠ 60 := by
    intro h
    have h2 : bt (W ++ [60, 47, 112, 62]) 0 = 60 := by
      have := bt_app [60, 112, 62] (W ++ [60, 47, 112, 62]) 0
      rw [← hP] at this
      rw [← this]; exact h
    obtain ⟨c, t, hc⟩ := List.exists_cons_of_ne_nil (l := W ++ [60, 47, 112, 62]) (by simp)
    rw [hc] at h2 hsay
    rw [sayJ_cons, if_pos (by rw [bt_c0] at h2; exact h2)] at hsay
    simp only [Option.some.injEq, Prod.mk.injEq] at hsay
    omega
  have h2 : oneG (pgT s) 3 = some ⟨116, [], s, [], 3, 3 + W.length⟩ := by
    unfold oneG
    have h3 : atS (pgT s) sCl 3 ≠ true := fun h => h60 (atS_lead h).2.1
    rw [if_neg h3, if_neg h60]
    have h4 : (pgT s).drop 3 = W ++ [60, 47, 112, 62] := by rw [hP]; rfl
    rw [h4, hsay]; rfl
  have h3 : oneG (pgT s) (3 + W.length) = some ⟨99, [112], [], [], 3 + W.length, 3 + W.length + 4⟩ := by
    unfold oneG
    have e1 : atS (pgT s) sCl (3 + W.length) = true := by rw [hP2, ← hq, atS_app]; rfl
    have e0 : pgT s = (([60, 112, 62] ++ W) ++ [60, 47]) ++ ([112] ++ [62]) := by rw [hP2]; simp
    have e2 : (([60, 112, 62] ++ W) ++ [60, 47] : List UInt8).length = 3 + W.length + 2 := by simp; omega
    have e3 : runT nameB (pgT s) (3 + W.length + 2) = [112] := by rw [e0, ← e2]; exact runT_app _ _ _ (by decide) (by decide)
    have e4 : runE nameB (pgT s) (3 + W.length + 2) = 3 + W.length + 3 := by rw [e0, ← e2, runE_app _ _ _ (by decide) (by decide), e2]; rfl
    have e5 : bt (pgT s) (3 + W.length + 3) = 62 := by
      have := bt_app ([60, 112, 62] ++ W) [60, 47, 112, 62] 3
      rw [← hP2, hq] at this
      exact this
    rw [if_pos e1, e3, e4, if_pos ⟨by decide, by decide, e5⟩]
  rw [tgsAt_step (by omega), h1]
  dsimp only
  rw [tgsAt_step (by omega), h2]
  dsimp only
  rw [tgsAt_step (by omega), h3]
  dsimp only
  rw [tgsAt_end (by omega), hW]
  rfl
def hdA : List UInt8 := [60, 97, 32, 116, 105, 116, 108, 101, 61, 34]
/-- The page of an attribute's value. -/
def pgA (s : List UInt8) : List UInt8 := hdA ++ (wrE true s ++ [34, 62, 120, 60, 47, 97, 62])
theorem pgA_tags {s : List UInt8} (hg : good s = true) : tagsJ (pgA s) = some [⟨111, [97], [], [⟨[116, 105, 116, 108, 101], s, 10, 10 + (wrE true s).length⟩], 0, 12 + (wrE true s).length⟩, ⟨116, [], [120], [], 12 + (wrE true s).length, 13 + (wrE true s).length⟩, ⟨99, [97], [], [], 13 + (wrE true s).length, 17 + (wrE true s).length⟩] := by
  unfold tagsJ
  have hgood : good (pgA s) = true := by
    unfold pgA
    rw [good_low_app _ (by decide), good_wrE true _ _ s (Nat.le_refl _) hg]
    rfl
  rw [if_pos hgood]
  have hsay := say_wr (attr := true) (.inr ⟨rfl, rfl⟩) (34 : UInt8) rfl [62, 120, 60, 47, 97, 62] s
  obtain ⟨W, hW⟩ : ∃ W, wrE true s = W := ⟨_, rfl⟩
  rw [hW] at hsay
  have hP : pgA s = hdA ++ (W ++ [34, 62, 120, 60, 47, 97, 62]) := by unfold pgA; rw [hW]
  have hP2 : pgA s = (hdA ++ W) ++ [34, 62, 120, 60, 47, 97, 62] := by rw [hP, List.append_assoc]
  have hq : (hdA ++ W : List UInt8).length = 10 + W.length := by rw [List.length_append]; rfl
  have hlen : (pgA s).length = 17 + W.length := by rw [hP2, List.length_append, hq]; simp; omega
  have hbt : ∀ i, bt (pgA s) (10 + W.length + i) = bt [34, 62, 120, 60, 47, 97, 62] i := by
    intro i
    have := bt_app (hdA ++ W) [34, 62, 120, 60, 47, 97, 62] i
    rw [← hP2, hq] at this
    exact this
  have hgap : runE gapB (pgA s) (11 + W.length) = 11 + W.length := runE_no (by
    have := hbt 1
    rw [show 10 + W.length + 1 = 11 + W.length by omega] at this
    rw [this]; rfl)
  have h1 : oneG (pgA s) 0 = some ⟨111, [97], [], [⟨[116, 105, 116, 108, 101], s, 10, 10 + W.length⟩], 0, 12 + W.length⟩ := by
    have e1 : atS (pgA s) sCl 0 = false := by rw [hP]; rfl
    have e2 : bt (pgA s) 0 = 60 := by rw [hP]; rfl
    have e3 : runT nameB (pgA s) 1 = [97] := by rw [hP]; rfl
    have e4 : runE nameB (pgA s) 1 = 2 := by rw [hP]; rfl
    have e5 : runE gapB (pgA s) 2 = 3 := by rw [hP]; rfl
    have e6 : bt (pgA s) 3 = 116 := by rw [hP]; rfl
    have e7 : runT nameB (pgA s) 3 = [116, 105, 116, 108, 101] := by rw [hP]; rfl
    have e8 : runE nameB (pgA s) 3 = 8 := by rw [hP]; rfl
    have e9 : atS (pgA s) sEq 8 = true := by rw [hP]; rfl
    have e10 : (pgA s).drop 10 = W ++ [34, 62, 120, 60, 47, 97, 62] := by rw [hP]; rfl
    have e11 : attJ (pgA s) 3 = some (⟨[116, 105, 116, 108, 101], s, 10, 10 + W.length⟩, 11 + W.length) := by
      unfold attJ
      rw [e7, e8, if_pos ⟨by decide, e9⟩, e10, hsay]
      dsimp only
      rw [if_pos (by rw [show 8 + 2 + W.length = 10 + W.length + 0 by omega, hbt 0]; rfl)]
      simp only [Option.some.injEq, Prod.mk.injEq, true_and]
      omega
    unfold oneG
    rw [e1, if_neg (by decide), if_pos e2, e3, if_pos (by decide), e4, opnJ_step _ _ _ (by omega), e5, if_neg (by rw [e6]; decide), e11]
    dsimp only
    rw [if_neg (by simp), opnJ_step _ _ _ (by omega), hgap, if_pos (by have := hbt 1; rw [show 10 + W.length + 1 = 11 + W.length by omega] at this; rw [this]; rfl)]
    simp only [Option.map_some, List.nil_append, Option.some.injEq, Tg.mk.injEq, true_and]
    omega
  have e0 : pgA s = (hdA ++ (W ++ [34, 62])) ++ [120, 60, 47, 97, 62] := by rw [hP]; simp
  have l0 : (hdA ++ (W ++ [34, 62]) : List UInt8).length = 12 + W.length := by rw [List.length_append, List.length_append]; show 10 + (W.length + 2) = _; omega
  have h2 : oneG (pgA s) (12 + W.length) = some ⟨116, [], [120], [], 12 + W.length, 13 + W.length⟩ := by
    unfold oneG
    have b0 : bt (pgA s) (12 + W.length) = 120 := by have := hbt 2; rw [show 10 + W.length + 2 = 12 + W.length by omega] at this; rw [this]; rfl
    have h3 : atS (pgA s) sCl (12 + W.length) ≠ true := fun h => by have := (atS_lead h).2.1; rw [b0] at this; exact absurd this (by decide)
    have h4 : (pgA s).drop (12 + W.length) = [120, 60, 47, 97, 62] := by rw [e0, ← l0, List.drop_left]
    rw [if_neg h3, if_neg (by rw [b0]; decide), h4]
    have : sayJ 60 62 [120, 60, 47, 97, 62] = some ([120], 1) := by rfl
    rw [this]
    simp only [Option.map_some, Option.some.injEq, Tg.mk.injEq, true_and]
    omega
  have h3 : oneG (pgA s) (13 + W.length) = some ⟨99, [97], [], [], 13 + W.length, 17 + W.length⟩ := by
    unfold oneG
    have c0 : pgA s = ((hdA ++ (W ++ [34, 62])) ++ [120]) ++ [60, 47, 97, 62] := by rw [hP]; simp
    have l1 : ((hdA ++ (W ++ [34, 62])) ++ [120] : List UInt8).length = 13 + W.length := by rw [List.length_append, l0]; show 12 + W.length + 1 = _; omega
    have e1 : atS (pgA s) sCl (13 + W.length) = true := by rw [c0, ← l1, atS_app]; rfl
    have d0 : pgA s = (((hdA ++ (W ++ [34, 62])) ++ [120]) ++ [60, 47]) ++ ([97] ++ [62]) := by rw [hP]; simp
    have l2 : (((hdA ++ (W ++ [34, 62])) ++ [120]) ++ [60, 47] : List UInt8).length = 13 + W.length + 2 := by rw [List.length_append, l1]; rfl
    have e3 : runT nameB (pgA s) (13 + W.length + 2) = [97] := by rw [d0, ← l2]; exact runT_app _ _ _ (by decide) (by decide)
    have e4 : runE nameB (pgA s) (13 + W.length + 2) = 16 + W.length := by rw [d0, ← l2, runE_app _ _ _ (by decide) (by decide), l2]; show 13 + W.length + 2 + 1 = _; omega
    have b0 : bt (pgA s) (16 + W.length) = 62 := by have := hbt 6; rw [show 10 + W.length + 6 = 16 + W.length by omega] at this; rw [this]; rfl
    rw [if_pos e1, e3, e4, if_pos ⟨by decide, by decide, b0⟩]
    simp only [Option.some.injEq, Tg.mk.injEq, true_and]
    omega
  rw [tgsAt_step (by omega), h1]
  dsimp only
  rw [tgsAt_step (by omega), h2]
  dsimp only
  rw [tgsAt_step (by omega), h3]
  dsimp only
  rw [tgsAt_end (by omega), hW]
  rfl
end Go.Proofs.Ytlogjghbdnaedaa
