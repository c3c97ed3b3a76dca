/- Plain: tokens of a text behind another; a written string is one token. -/
import Derived.Test.YtmfldffbafamnaaJsSpec
import Derived.Test.YtmfldffbafamnaaCjT
import Derived.Test.YtmfldffbafamnaaCjR
import Derived.Test.YtmfldffbafamnaaUtfP
import Derived.Test.YtmfldffbafamnaaJsW
import Derived.Test.YtmfldffbafamnaaCjU
import Derived.Test.YtmfldffbafamnaaUtfF
import Derived.Test.YtmfldffbafamnaaQuoF
namespace Go.Proofs.Ytmfldffbafamnaa
set_option linter.unusedVariables false
set_option linter.unusedSimpArgs false
def shiftT (d : Nat) (t : Tok) : Tok := ⟨t.kind, t.text, d + t.frm, d + t.to⟩
theorem digE_drop (l : List UInt8) (d k : Nat) : digE l (d + k) = d + digE (l.drop d) k := by
  unfold digE; rw [List.drop_drop]; omega
theorem numStart_drop (l : List UInt8) (d k : Nat) : numStart l (d + k) = d + numStart (l.drop d) k := by
  unfold numStart; rw [bt_drop]; split <;> omega
theorem numInt_drop (l : List UInt8) (d k : Nat) : numInt l (d + k) = d + numInt (l.drop d) k := by
  unfold numInt; rw [bt_drop, digE_drop]; split <;> omega
theorem numFrac_drop (l : List UInt8) (d e : Nat) : numFrac l (d + e) = d + numFrac (l.drop d) e := by
  unfold numFrac
  rw [bt_drop, Nat.add_assoc, digE_drop]
  by_cases h : bt l (d + e) = 46 ∧ e + 1 < digE (l.drop d) (e + 1)
  · rw [if_pos h, if_pos ⟨h.1, by omega⟩]
  · rw [if_neg h, if_neg (fun x => h ⟨x.1, by have := x.2; omega⟩)]
theorem expStart_drop (l : List UInt8) (d e : Nat) : expStart l (d + e) = d + expStart (l.drop d) e := by
  unfold expStart; rw [bt_drop]; split <;> omega
theorem numExp_drop (l : List UInt8) (d e : Nat) : numExp l (d + e) = d + numExp (l.drop d) e := by
  unfold numExp
  rw [bt_drop, Nat.add_assoc, expStart_drop, digE_drop]
  by_cases h : bt l (d + e) = 101 ∨ bt l (d + e) = 69
  · rw [if_pos h, if_pos h]
    by_cases h2 : expStart (l.drop d) (e + 1) < digE (l.drop d) (expStart (l.drop d) (e + 1))
    · rw [if_pos h2, if_pos (by omega)]
    · rw [if_neg h2, if_neg (by omega)]
  · rw [if_neg h, if_neg h]
theorem numE_drop (l : List UInt8) (d k : Nat) : numE l (d + k) = (numE (l.drop d) k).map (d + ·) := by
  unfold numE
  rw [numStart_drop, digE_drop, numInt_drop, numFrac_drop, numExp_drop]
  by_cases h : digE (l.drop d) (numStart (l.drop d) k) = numStart (l.drop d) k
  · rw [if_pos h, if_pos (by omega)]; rfl
  · rw [if_neg h, if_neg (by omega)]; rfl
theorem atL_drop (l p : List UInt8) (d k : Nat) (h : d ≤ l.length) : atL l p (d + k) = atL (l.drop d) p k := by
  unfold atL
  rw [List.drop_drop, List.length_drop]
  congr 1
  exact decide_eq_decide.2 (by omega)
theorem oneT_drop (l : List UInt8) (d k : Nat) (h : d ≤ l.length) : oneT l (d + k) = (oneT (l.drop d) k).map (shiftT d) := by
  unfold oneT
  rw [bt_drop, atL_drop _ _ _ _ h, atL_drop _ _ _ _ h, atL_drop _ _ _ _ h, numE_drop, List.drop_drop, List.drop_drop, Nat.add_assoc d k 1]
  split
  · rfl
  split
  · cases strJ (l.drop (d + (k + 1))) with
    | none => rfl
    | some p => obtain ⟨t, n⟩ := p; simp only [Option.map_some, shiftT]; rw [Nat.add_assoc d]
  split
  · rfl
  split
  · rfl
  split
  · rfl
  cases numE (l.drop d) k with
  | none => rfl
  | some e => simp only [Option.map_some, shiftT]; rw [Nat.add_sub_add_left]
theorem toksAt_drop (l : List UInt8) (d : Nat) (h : d ≤ l.length) : ∀ (m k : Nat), l.length ≤ d + k + m → toksAt l (d + k) = (toksAt (l.drop d) k).map (List.map (shiftT d))
  | 0, k, hm => by rw [toksAt_end (by omega), toksAt_end (by rw [List.length_drop]; omega)]; rfl
  | m + 1, k, hm => by
    by_cases h1 : l.length ≤ d + k
    · rw [toksAt_end h1, toksAt_end (by rw [List.length_drop]; omega)]; rfl
    have h2 : k < (l.drop d).length := by rw [List.length_drop]; omega
    rw [toksAt_step (by omega), toksAt_step h2, bt_drop, oneT_drop l d k h]
    split
    · rw [Nat.add_assoc]; exact toksAt_drop l d h m (k + 1) (by omega)
    · cases ho : oneT (l.drop d) k with
      | none => rfl
      | some t =>
        have hb := oneT_bd h2 ho
        rw [List.length_drop] at hb
        simp only [Option.map_some]
        have := toksAt_drop l d h m t.to (by omega)
        rw [show (shiftT d t).to = d + t.to from rfl, this]
        cases toksAt (l.drop d) t.to with
        | none => rfl
        | some ts => rfl
theorem toksAt_zero (l : List UInt8) (d : Nat) (h : d ≤ l.length) : toksAt l d = (toks (l.drop d)).map (List.map (shiftT d)) := toksAt_drop l d h l.length 0 (by omega)
theorem toks_step {l : List UInt8} (h : l ≠ []) : toks l = if blankK (bt l 0) then toks (l.drop 1) |>.map (List.map (shiftT 1)) else
    match oneT l 0 with
    | none => none
    | some t => ((toks (l.drop t.to)).map (List.map (shiftT t.to))).map (t :: ·) := by
  have hl := List.length_pos_iff.2 h
  unfold toks
  rw [toksAt_step hl]
  split
  · exact toksAt_zero l 1 hl
  · cases ho : oneT l 0 with
    | none => rfl
    | some t =>
      have hb := oneT_bd hl ho
      dsimp only
      rw [toksAt_zero l t.to hb.2.2.1]; rfl
/-- The first byte of what a rune is written as ends no string. -/
theorem wrJ_head {n : Nat} (hr : isRune (n : Int)) (t : List UInt8) : bt (wrJ n ++ t) 0 ≠ 34 := by
  by_cases h1 : letN n = 0
  · by_cases h2 : longN n
    · rw [wrJ_long h1 h2]; exact (by decide : (92 : Nat) ≠ 34)
    · rw [wrJ_self h1 h2]
      have hs := letN_special h1
      have hh := enc_head hr t
      omega
  · rw [wrJ_short h1]; exact (by decide : (92 : Nat) ≠ 34)
theorem str_wr : ∀ (rs : List Nat) (t : List UInt8), (∀ r ∈ rs, isRune (r : Int)) → strJ (rs.flatMap wrJ ++ 34 :: t) = some (joined rs, (rs.flatMap wrJ).length + 1)
  | [], t, _ => by
    rw [strJ_step (by simp), if_pos (by rfl)]; rfl
  | r :: rs, t, h => by
    have hr := h r (by simp)
    have hl := wrJ_length r
    rw [List.flatMap_cons, List.append_assoc]
    have h0 : wrJ r ++ (rs.flatMap wrJ ++ 34 :: t) ≠ [] := by
      intro e
      have := congrArg List.length e
      rw [List.length_append, List.length_nil] at this; omega
    rw [strJ_step h0, if_neg (wrJ_head hr _), oneJ_wr hr]
    dsimp only
    rw [List.drop_left, str_wr rs t (fun x hx => h x (by simp [hx]))]
    simp only [Option.map_some, List.length_append, Option.some.injEq, Prod.mk.injEq]
    exact ⟨rfl, by omega⟩
/-- A written string is one token. -/
theorem str_write (u t : List UInt8) : strJ (writeJ u ++ 34 :: t) = some (joined (runes u), (writeJ u).length + 1) := str_wr _ t (runes_rune _ u (Nat.le_refl _))
theorem toks_str {u : List UInt8} (hu : joined (runes u) = u) (t : List UInt8) : toks (34 :: (writeJ u ++ 34 :: t)) = ((toks t).map (List.map (shiftT ((writeJ u).length + 2)))).map (⟨34, u, 0, (writeJ u).length + 2⟩ :: ·) := by
  rw [toks_step (by simp), if_neg (show ¬ blankK (bt (34 :: (writeJ u ++ 34 :: t)) 0) from (by decide : ¬ blankK 34))]
  have h1 : oneT (34 :: (writeJ u ++ 34 :: t)) 0 = some ⟨34, u, 0, (writeJ u).length + 2⟩ := by
    unfold oneT
    rw [if_neg (show ¬ markK (bt (34 :: (writeJ u ++ 34 :: t)) 0) from (by decide : ¬ markK 34)), if_pos (show bt (34 :: (writeJ u ++ 34 :: t)) 0 = 34 from rfl)]
    rw [show (34 :: (writeJ u ++ 34 :: t)).drop (0 + 1) = writeJ u ++ 34 :: t from rfl, str_write, hu]
    dsimp only
    rw [show 0 + 1 + ((writeJ u).length + 1) = (writeJ u).length + 2 by omega]
  rw [h1]
  dsimp only
  rw [show (34 :: (writeJ u ++ 34 :: t)).drop ((writeJ u).length + 2) = t by
    rw [show (writeJ u).length + 2 = ((writeJ u).length + 1) + 1 by omega, List.drop_succ_cons, ← List.drop_drop, List.drop_left]; rfl]
/-- A mark is one token. -/
theorem toks_mark {c : UInt8} (hc : markK c.toNat) (t : List UInt8) : toks (c :: t) = ((toks t).map (List.map (shiftT 1))).map (⟨c.toNat, [], 0, 1⟩ :: ·) := by
  have hb : ¬ blankK c.toNat := by unfold markK at hc; unfold blankK; omega
  rw [toks_step (by simp)]
  rw [bt_c0, if_neg hb]
  have h1 : oneT (c :: t) 0 = some ⟨c.toNat, [], 0, 1⟩ := by
    unfold oneT; rw [bt_c0, if_pos hc]
  rw [h1]; rfl
/-- What the value of tokens depends on: their kinds and texts alone. -/
theorem shift_get (d : Nat) (ts : List Tok) (k : Nat) : (ts.map (shiftT d))[k]? = (ts[k]?).map (shiftT d) := by rw [List.getElem?_map]
end Go.Proofs.Ytmfldffbafamnaa

/- Plain: a text's tokens ahead of a bracket (chapters 10, 37). -/
namespace Go.Proofs.Ytmfldffbafamnaa
set_option linter.unusedVariables false
set_option linter.unusedSimpArgs false
theorem bt_app {l x : List UInt8} {i : Nat} (h : i < l.length) : bt (l ++ x) i = bt l i := by
  unfold bt
  rw [List.getD_eq_getElem?_getD, List.getD_eq_getElem?_getD, List.getElem?_append_left h]
theorem byteAt_app {l x : List UInt8} {k v : Nat} (h : byteAt l k = some v) : byteAt (l ++ x) k = some v := by
  have hl := byteAt_len h
  unfold byteAt at h ⊢
  rw [bt_app (by omega), bt_app (by omega)]
  split at h
  · rename_i h1
    rw [if_pos ⟨by rw [List.length_append]; omega, h1.2⟩]; exact h
  · cases h
theorem unitAt_app {l x : List UInt8} {k v : Nat} (h : unitAt l k = some v) : unitAt (l ++ x) k = some v := by
  have hl := unitAt_len h
  unfold unitAt at h ⊢
  rw [bt_app (by omega), bt_app (by omega)]
  split at h
  · rename_i h1
    rw [if_pos h1]
    split at h
    · rename_i a b ha hb
      rw [byteAt_app ha, byteAt_app hb]; exact h
    · cases h
  · cases h
theorem escJ_app {l x : List UInt8} {p : Nat × Nat} (h : escJ l = some p) : escJ (l ++ x) = some p := by
  unfold escJ at h ⊢
  split at h
  · rename_i h1
    have h2 : 1 < l.length := bt_pos_lt (fun hz => by rw [hz] at h1; exact h1 (by decide))
    rw [bt_app h2, if_pos h1]; exact h
  · rename_i h1
    split at h
    · cases h
    · rename_i a ha
      have := unitAt_len ha
      rw [bt_app (by omega), if_neg h1, unitAt_app ha]
      dsimp only
      split at h
      · cases h
      · rename_i h3
        rw [if_neg h3]
        split at h
        · rename_i h4
          rw [if_pos h4]
          split at h
          · cases h
          · rename_i b hb
            rw [unitAt_app hb]; exact h
        · rename_i h4
          rw [if_neg h4]; exact h
theorem oneJ_app {l x : List UInt8} {p : Nat × Nat} (h : oneJ l = some p) : oneJ (l ++ x) = some p := by
  unfold oneJ at h
  split at h
  · cases h
  rename_i hne
  have hl : 0 < l.length := List.length_pos_iff.2 hne
  unfold oneJ
  rw [if_neg (by simp [hne]), bt_app hl]
  split at h
  · rename_i h1
    rw [if_pos h1]; exact escJ_app h
  rename_i h1
  rw [if_neg h1]
  split at h
  · cases h
  rename_i h2
  have hn : next (l ++ x) = next l := by
    rcases next_cases hne with h3 | h3
    · exact absurd (.inr (.inr ⟨by rw [h3], by rw [h3]⟩)) h2
    · have h4 : l = enc ((next l).1 : Int) ++ l.drop (next l).2 := by rw [h3.1, List.take_append_drop]
      have h5 := next_enc ((next l).1 : Int) (l.drop (next l).2 ++ x)
      rw [← List.append_assoc, ← h4] at h5
      have h6 : (enc ((next l).1 : Int)).length = (next l).2 := by
        rw [h3.1, List.length_take]; have := (next_bound l).2.2.1; omega
      rw [h5, h3.2, h6]
  rw [hn, if_neg h2]; exact h
theorem strJ_app {x : List UInt8} : ∀ (m : Nat) (l : List UInt8) (t : List UInt8) (n : Nat), l.length ≤ m → strJ l = some (t, n) → strJ (l ++ x) = some (t, n)
  | m, [], t, n, _, h => by rw [strJ_nil] at h; cases h
  | 0, _ :: _, _, _, hl, _ => by simp at hl
  | m + 1, a :: r, t, n, hl, h => by
    have h0 : a :: r ≠ [] := by simp
    rw [strJ_step h0] at h
    rw [strJ_step (by simp), bt_app (by simp)]
    split at h
    · rename_i h1
      rw [if_pos h1]; exact h
    · rename_i h1
      rw [if_neg h1]
      split at h
      · cases h
      · rename_i q k ho
        have hb := oneJ_bound ho
        rw [oneJ_app ho]
        dsimp only
        rw [List.drop_append_of_le_length hb.2.2.2]
        cases hs : strJ ((a :: r).drop k) with
        | none => rw [hs] at h; cases h
        | some p =>
          obtain ⟨u, j⟩ := p
          rw [hs] at h
          rw [strJ_app m _ u j (by rw [List.length_drop]; simp only [List.length_cons] at *; omega) hs]
          exact h
theorem atL_app {l p x : List UInt8} {k : Nat} (h : atL l p k = true) (hp : p ≠ []) : atL (l ++ x) p k = true := by
  have hl : k + p.length ≤ l.length := (atL_len h).resolve_right hp
  unfold atL at h ⊢
  simp only [Bool.and_eq_true, decide_eq_true_eq] at h ⊢
  refine ⟨by rw [List.length_append]; omega, ?_⟩
  rw [List.drop_append_of_le_length h.1, List.take_append_of_le_length (by rw [List.length_drop]; omega)]
  exact h.2
theorem atL_hd {l p : List UInt8} {k : Nat} {c : UInt8} (h : atL l (c :: p) k = true) : bt l k = c.toNat := by
  unfold atL at h
  simp only [Bool.and_eq_true, decide_eq_true_eq] at h
  have h2 := h.2
  have h3 := bt_drop l k 0
  cases hd : l.drop k with
  | nil => rw [hd] at h2; simp at h2
  | cons b r =>
    rw [hd] at h2 h3
    simp at h2
    rw [bt_c0] at h3
    rw [Nat.add_zero] at h3
    rw [← h3, h2.1]
/-- What may stand behind a whole number. -/
def sepK (c : Nat) : Prop := markK c ∨ blankK c
instance (c : Nat) : Decidable (sepK c) := by unfold sepK; infer_instance
section
variable {l r : List UInt8} {c : UInt8} (hc : sepK c.toNat)
include hc
theorem bt_mark {i : Nat} (hi : i ≤ l.length) (P : Nat → Prop) (hP : ∀ m, sepK m → ¬ P m) (h0 : ¬ P 0) : P (bt (l ++ c :: r) i) ↔ P (bt l i) := by
  rcases Nat.lt_or_ge i l.length with h | h
  · rw [bt_app h]
  · obtain rfl : i = l.length := by omega
    have h1 : bt (l ++ c :: r) l.length = c.toNat := by
      have := bt_drop (l ++ c :: r) l.length 0
      rw [List.drop_left, bt_c0, Nat.add_zero] at this
      exact this.symm
    have h2 : bt l l.length = 0 := by simp [bt, List.getD_eq_getElem?_getD]
    rw [h1, h2]
    exact ⟨fun h => absurd h (hP _ hc), fun h => absurd h h0⟩
theorem digE_mark : ∀ (m k : Nat), l.length ≤ k + m → k ≤ l.length → digE (l ++ c :: r) k = digE l k
  | m, k, hm, hk => by
    have hb := bt_mark (l := l) (r := r) hc hk isDg (fun m hm => by unfold sepK markK blankK at hm; unfold isDg; omega) (by decide)
    by_cases hd : isDg (bt l k)
    · have hkl : k < l.length := by
        rcases Nat.lt_or_ge k l.length with h | h
        · exact h
        · rw [show bt l k = 0 by simp [bt, List.getD_eq_getElem?_getD, List.getElem?_eq_none h]] at hd
          exact absurd hd (by decide)
      rw [digE_yes hkl hd, digE_yes (by simp; omega) (hb.2 hd)]
      cases m with
      | zero => omega
      | succ m => exact digE_mark m (k + 1) (by omega) (by omega)
    · rw [digE_no hd, digE_no (fun h => hd (hb.1 h))]
theorem numE_mark {k : Nat} (hk : k < l.length) : numE (l ++ c :: r) k = numE l k := by
  have hD := fun i (hi : i ≤ l.length) => digE_mark (l := l) (r := r) hc l.length i (by omega) hi
  have hB := fun (i a : Nat) (hi : i ≤ l.length) (h1 : a ≠ 0) (h2 : ¬ sepK a) => bt_mark (l := l) (r := r) hc hi (fun x => x = a) (fun m hm h => h2 (h ▸ hm)) (fun h => h1 h.symm)
  have h0 : numStart (l ++ c :: r) k = numStart l k := by
    unfold numStart
    simp only [hB k 45 (by omega) (by decide) (by decide)]
  have h0b := numStart_bd l k hk
  unfold numE
  rw [h0, hD _ h0b.2]
  split
  · rfl
  rename_i hd
  have hp := digE_pos hd
  have h1 : numInt (l ++ c :: r) (numStart l k) = numInt l (numStart l k) := by
    unfold numInt
    simp only [hB (numStart l k) 48 h0b.2 (by decide) (by decide), hD _ h0b.2]
  have h1b : numInt l (numStart l k) ≤ l.length := by
    unfold numInt
    split
    · omega
    · exact digE_le l _ h0b.2
  have h2 : numFrac (l ++ c :: r) (numInt l (numStart l k)) = numFrac l (numInt l (numStart l k)) := by
    unfold numFrac
    by_cases h46 : bt l (numInt l (numStart l k)) = 46
    · have := bt_pos_lt (l := l) (k := numInt l (numStart l k)) (by omega)
      simp only [hB _ 46 h1b (by decide) (by decide), hD (numInt l (numStart l k) + 1) (by omega)]
    · rw [if_neg (fun h => h46 ((hB _ 46 h1b (by decide) (by decide)).1 h.1)), if_neg (fun h => h46 h.1)]
  have h2b := (numFrac_bd l _ h1b).2
  have h3 : numExp (l ++ c :: r) (numFrac l (numInt l (numStart l k))) = numExp l (numFrac l (numInt l (numStart l k))) := by
    unfold numExp
    by_cases hE : bt l (numFrac l (numInt l (numStart l k))) = 101 ∨ bt l (numFrac l (numInt l (numStart l k))) = 69
    · have hlt := bt_pos_lt (l := l) (k := numFrac l (numInt l (numStart l k))) (by omega)
      have e1 : expStart (l ++ c :: r) (numFrac l (numInt l (numStart l k)) + 1) = expStart l (numFrac l (numInt l (numStart l k)) + 1) := by
        unfold expStart
        simp only [hB _ 43 hlt (by decide) (by decide), hB _ 45 hlt (by decide) (by decide)]
      have e2 := (expStart_bd l (numFrac l (numInt l (numStart l k)) + 1) hlt).2
      rw [e1, hD _ e2, if_pos hE, if_pos (by rw [hB _ 101 h2b (by decide) (by decide), hB _ 69 h2b (by decide) (by decide)]; exact hE)]
    · rw [if_neg hE, if_neg (by rw [hB _ 101 h2b (by decide) (by decide), hB _ 69 h2b (by decide) (by decide)]; exact hE)]
  rw [h1, h2, h3]
theorem oneT_app {k : Nat} {t : Tok} (hk : k < l.length) (h : oneT l k = some t) : oneT (l ++ c :: r) k = some t := by
  have hbd := oneT_bd hk h
  unfold oneT at h ⊢
  rw [bt_app hk, List.drop_append_of_le_length hk]
  by_cases q1 : markK (bt l k)
  · rw [if_pos q1] at h ⊢; exact h
  rw [if_neg q1] at h ⊢
  by_cases q2 : bt l k = 34
  · rw [if_pos q2] at h ⊢
    cases hs : strJ (l.drop (k + 1)) with
    | none => rw [hs] at h; cases h
    | some p =>
      obtain ⟨u, n⟩ := p
      rw [hs] at h
      rw [strJ_app _ _ u n (Nat.le_refl _) hs]; exact h
  rw [if_neg q2] at h ⊢
  by_cases q3 : atL l tTrue k = true
  · rw [if_pos q3] at h; rw [if_pos (atL_app q3 (by decide))]; exact h
  rw [if_neg q3] at h
  by_cases q4 : atL l tFalse k = true
  · rw [if_pos q4] at h
    have e := atL_hd q4
    rw [if_neg (fun x => by have := atL_hd x; rw [bt_app hk, e] at this; revert this; decide), if_pos (atL_app q4 (by decide))]; exact h
  rw [if_neg q4] at h
  by_cases q5 : atL l tNull k = true
  · rw [if_pos q5] at h
    have e := atL_hd q5
    rw [if_neg (fun x => by have := atL_hd x; rw [bt_app hk, e] at this; revert this; decide), if_neg (fun x => by have := atL_hd x; rw [bt_app hk, e] at this; revert this; decide), if_pos (atL_app q5 (by decide))]; exact h
  rw [if_neg q5] at h
  cases hn : numE l k with
  | none => rw [hn] at h; cases h
  | some e =>
    rw [hn] at h
    have hdg : bt l k = 45 ∨ isDg (bt l k) := by
      unfold numE at hn
      split at hn
      · cases hn
      · rename_i hd
        have hp := digE_pos hd
        unfold numStart at hp
        by_cases h45 : bt l k = 45
        · exact .inl h45
        · rw [if_neg h45] at hp; exact .inr hp.2
    have hno : ∀ (a : UInt8) (p : List UInt8), 58 < a.toNat → ¬ atL (l ++ c :: r) (a :: p) k = true := fun a p ha x => by
      have := atL_hd x
      rw [bt_app hk] at this
      unfold isDg at hdg; omega
    rw [if_neg (show ¬ atL (l ++ c :: r) tTrue k = true from hno 116 _ (by decide)), if_neg (show ¬ atL (l ++ c :: r) tFalse k = true from hno 102 _ (by decide)), if_neg (show ¬ atL (l ++ c :: r) tNull k = true from hno 110 _ (by decide)), numE_mark hc hk, hn]
    simp only [Option.some.injEq] at h ⊢
    have hle := (numE_bd hk hn).2
    rw [List.drop_append_of_le_length (by omega), List.take_append_of_le_length (by rw [List.length_drop]; omega)]
    exact h
theorem toksAt_app : ∀ (m k : Nat) (ts : List Tok), l.length ≤ k + m → k ≤ l.length → toksAt l k = some ts → toksAt (l ++ c :: r) k = (toksAt (l ++ c :: r) l.length).map (ts ++ ·)
  | m, k, ts, hm, hk, h => by
    rcases Nat.lt_or_ge k l.length with h1 | h1
    · cases m with
      | zero => omega
      | succ m =>
        rw [toksAt_step h1] at h
        rw [toksAt_step (by simp; omega), bt_app h1]
        by_cases hb : blankK (bt l k)
        · rw [if_pos hb] at h ⊢
          exact toksAt_app m (k + 1) ts (by omega) (by omega) h
        · rw [if_neg hb] at h ⊢
          cases ho : oneT l k with
          | none => rw [ho] at h; cases h
          | some t =>
            rw [ho] at h
            have hbd := oneT_bd h1 ho
            rw [oneT_app hc h1 ho]
            dsimp only at h ⊢
            cases hr : toksAt l t.to with
            | none => rw [hr] at h; cases h
            | some us =>
              rw [hr] at h
              simp only [Option.map_some, Option.some.injEq] at h
              subst h
              rw [toksAt_app m t.to us (by omega) hbd.2.2.1 hr]
              cases toksAt (l ++ c :: r) l.length <;> simp
    · obtain rfl : k = l.length := by omega
      rw [toksAt_end (Nat.le_refl _)] at h
      cases h
      cases toksAt (l ++ c :: r) l.length <;> simp
/-- The tokens of a text ahead of a bracket. -/
theorem toks_app {ts : List Tok} (h : toks l = some ts) : toks (l ++ c :: r) = (toks (c :: r)).map fun us => ts ++ us.map (shiftT l.length) := by
  unfold toks at h
  have h1 := toksAt_app (l := l) (r := r) hc l.length 0 ts (by omega) (by omega) h
  show toksAt (l ++ c :: r) 0 = _
  rw [h1, toksAt_zero _ _ (by simp), List.drop_left]
  cases toks (c :: r) <;> simp
end
end Go.Proofs.Ytmfldffbafamnaa

/- Plain: how the automaton takes a number: as the parser does (chapter 25). -/
namespace Go.Proofs.Ytmfldffbafamnaa
set_option linter.unusedVariables false
set_option linter.unusedSimpArgs false
set_option linter.unusedSectionVars false
/-- What an end's test must know: that no token may be cut. -/
class OKP (P : Q → Bool) : Prop where
  p9 : ∀ o p, P ⟨9, o, p⟩ = (cntB p && P ⟨5, o, []⟩)
  p8 : ∀ o p, P ⟨8, o, p⟩ = false
  pq : ∀ q o p, q = 6 ∨ q = 7 → p ≠ [] → P ⟨q, o, p⟩ = false
instance okp_end : OKP endS := ⟨fun o p => by simp [endS]; cases o.isEmpty <;> cases cntB p <;> rfl, fun o p => by simp [endS], fun q o p hq _ => by rcases hq with rfl | rfl <;> simp [endS]⟩
instance okp_hole : OKP holeS := ⟨fun o p => by simp [holeS], fun o p => by simp [holeS], fun q o p hq hp => by unfold holeS; cases p with | nil => exact absurd rfl hp | cons a b => simp⟩
/-- May the text end behind this, where the automaton stands so? -/
def acc' (P : Q → Bool) (q : Q) (l : List UInt8) : Bool := (runS q l).2 && P (runS q l).1
/-- A value was read: what may come behind it. -/
def X' (P : Q → Bool) (o : List UInt8) (t : List UInt8) : Bool := acc' P ⟨5, o, []⟩ t
/-- Behind a number's digits: an exponent may come. -/
def EE' (P : Q → Bool) (o t : List UInt8) : Bool := if bt t 0 = 101 ∨ bt t 0 = 69 then acc' P ⟨9, o, [101]⟩ (t.drop 1) else X' P o t
/-- Behind a number's whole part: a point may come. -/
def FF' (P : Q → Bool) (o t : List UInt8) : Bool := if bt t 0 = 46 then acc' P ⟨9, o, [46]⟩ (t.drop 1) else EE' P o t
/-- A number's whole part, and what is behind it. -/
def GG' (P : Q → Bool) (o t : List UInt8) : Bool := if isDg (bt t 0) then FF' P o (if bt t 0 = 48 then t.drop 1 else t.drop (digN t)) else false
section
variable {P : Q → Bool} [hP : OKP P]
theorem acc_nil (q : Q) : (acc' P) q [] = P q := by simp [acc', runS]
theorem acc_cons (q : Q) (c : UInt8) (t : List UInt8) : (acc' P) q (c :: t) = if (nextS q c).2 = true then (acc' P) (nextS q c).1 t else false := by
  unfold acc'
  rw [runS]
  split
  · rfl
  · simp
theorem acc_ok {q q' : Q} {c : UInt8} {t : List UInt8} (h : nextS q c = (q', true)) : (acc' P) q (c :: t) = (acc' P) q' t := by
  rw [acc_cons, h, if_pos rfl]
theorem acc_no {q : Q} {c : UInt8} {t : List UInt8} (h : (nextS q c).2 = false) : (acc' P) q (c :: t) = false := by
  rw [acc_cons, h, if_neg (by decide)]
theorem next9 (o p : List UInt8) (c : UInt8) : nextS ⟨9, o, p⟩ c = if (numS p c.toNat).2 = true then (⟨9, o, (numS p c.toNat).1⟩, true) else if cntB p = true then outS ⟨5, o, []⟩ c else (⟨9, o, p⟩, false) := by
  unfold nextS
  dsimp only
  rw [if_neg (by omega), if_neg (by omega), if_pos rfl]
theorem next5 (o : List UInt8) (c : UInt8) : nextS ⟨5, o, []⟩ c = outS ⟨5, o, []⟩ c := by
  unfold nextS
  dsimp only
  rw [if_neg (by omega), if_neg (by omega), if_neg (by omega)]
theorem end5 (o : List UInt8) : endS ⟨5, o, []⟩ = o.isEmpty := by simp [endS]
theorem end9 (o p : List UInt8) : endS ⟨9, o, p⟩ = (o.isEmpty && cntB p) := by simp [endS]
theorem num_nil (o p : List UInt8) : (acc' P) ⟨9, o, p⟩ [] = if cntB p = true then (X' P) o [] else false := by
  unfold X'
  rw [acc_nil, acc_nil, hP.p9]
  cases cntB p <;> simp
theorem num_cons (o p : List UInt8) (c : UInt8) (t : List UInt8) : (acc' P) ⟨9, o, p⟩ (c :: t) = if (numS p c.toNat).2 = true then (acc' P) ⟨9, o, (numS p c.toNat).1⟩ t else if cntB p = true then (X' P) o (c :: t) else false := by
  unfold X'
  rw [acc_cons, next9, acc_cons, next5]
  split
  · rename_i h; simp
  · split
    · rfl
    · simp
theorem X_no {o : List UInt8} {t : List UInt8} (h : bt t 0 = 46 ∨ bt t 0 = 101 ∨ bt t 0 = 69) : (X' P) o t = false := by
  cases t with
  | nil => simp [bt] at h
  | cons c t =>
    rw [show bt (c :: t) 0 = c.toNat from by simp [bt]] at h
    unfold X'
    refine acc_no ?_
    rw [next5]
    unfold outS
    rw [if_neg (by omega), if_neg (by omega), if_neg (by omega), if_neg (by omega), if_neg (by omega), if_neg (by omega)]
    unfold beginS
    rw [if_pos (.inl (by simp))]
theorem dgB {c : Nat} : digB c = decide (isDg c) := rfl
theorem digN_no {t : List UInt8} (h : ¬ isDg (bt t 0)) : digN t = 0 := by
  cases t with
  | nil => rfl
  | cons c t => rw [digN_cons, if_neg (by rwa [show bt (c :: t) 0 = c.toNat from by simp [bt]] at h)]
theorem digN_pos {t : List UInt8} (h : isDg (bt t 0)) : 0 < digN t := by
  cases t with
  | nil => exact absurd h (by simp [bt]; decide)
  | cons c t => rw [digN_cons, if_pos (by rwa [show bt (c :: t) 0 = c.toNat from by simp [bt]] at h)]; omega
theorem cnt57 : cntB [57] = true := by decide
theorem cnt53 : cntB [53] = true := by decide
theorem cnt49 : cntB [49] = true := by decide
theorem cnt48 : cntB [48] = true := by decide
theorem cnt43 : cntB [43] = false := by decide
theorem cnt101 : cntB [101] = false := by decide
theorem cnt46 : cntB [46] = false := by decide
theorem cnt45 : cntB [45] = false := by decide
theorem s57 (c : Nat) : numS [57] c = ([57], digB c) := by simp [numS]
theorem s43 (c : Nat) : numS [43] c = ([57], digB c) := by simp [numS]
theorem s101 (c : Nat) : numS [101] c = if c = 43 ∨ c = 45 then ([43], true) else ([57], digB c) := by simp [numS]
theorem s53 (c : Nat) : numS [53] c = if eB c = true then ([101], true) else ([53], digB c) := by simp [numS]
theorem s46 (c : Nat) : numS [46] c = ([53], digB c) := by simp [numS]
theorem s48 (c : Nat) : numS [48] c = if c = 46 then ([46], true) else if eB c = true then ([101], true) else ([49], false) := by simp [numS]
theorem s49 (c : Nat) : numS [49] c = if c = 46 then ([46], true) else if eB c = true then ([101], true) else ([49], digB c) := by simp [numS]
theorem s45 (c : Nat) : numS [45] c = if c = 48 then ([48], true) else ([49], digB c) := by simp [numS]
theorem eB_is {c : Nat} : eB c = decide (c = 101 ∨ c = 69) := by
  unfold eB
  rw [Bool.eq_iff_iff]
  simp
  omega
theorem dg_e {c : Nat} (h : isDg c) : ¬ (c = 101 ∨ c = 69) := by unfold isDg at h; omega
theorem bt_h (c : UInt8) (t : List UInt8) : bt (c :: t) 0 = c.toNat := by simp [bt]
theorem num_go {o p p' : List UInt8} {c : UInt8} {t : List UInt8} (h : numS p c.toNat = (p', true)) : (acc' P) ⟨9, o, p⟩ (c :: t) = (acc' P) ⟨9, o, p'⟩ t := by
  rw [num_cons, h, if_pos rfl]
theorem num_end {o p p' : List UInt8} {c : UInt8} {t : List UInt8} (h : numS p c.toNat = (p', false)) (hc : cntB p = true) : (acc' P) ⟨9, o, p⟩ (c :: t) = (X' P) o (c :: t) := by
  rw [num_cons, h, if_neg (by simp), if_pos hc]
theorem num_bad {o p p' : List UInt8} {c : UInt8} {t : List UInt8} (h : numS p c.toNat = (p', false)) (hc : cntB p = false) : (acc' P) ⟨9, o, p⟩ (c :: t) = false := by
  rw [num_cons, h, if_neg (by simp), if_neg (by rw [hc]; decide)]
theorem dgq_yes {c : Nat} (h : isDg c) : digB c = true := by rw [dgB]; exact decide_eq_true h
theorem dgq_not {c : Nat} (h : ¬ isDg c) : digB c = false := by rw [dgB]; exact decide_eq_false h
theorem e_yes {c : Nat} (h : c = 101 ∨ c = 69) : eB c = true := by rw [eB_is]; exact decide_eq_true h
theorem e_not {c : Nat} (h : ¬ (c = 101 ∨ c = 69)) : eB c = false := by rw [eB_is]; exact decide_eq_false h
theorem drop_dg1 (n : Nat) (c : UInt8) (t : List UInt8) : (c :: t).drop (1 + n) = t.drop n := by rw [Nat.add_comm 1, List.drop_succ_cons]
theorem drop1 (c : UInt8) (t : List UInt8) : (c :: t).drop 1 = t := rfl
theorem a57 (o : List UInt8) : ∀ t, (acc' P) ⟨9, o, [57]⟩ t = (X' P) o (t.drop (digN t))
  | [] => by rw [num_nil, cnt57, if_pos rfl]; rfl
  | c :: t => by
    rw [digN_cons]
    by_cases h : isDg c.toNat
    · rw [num_go (by rw [s57, dgq_yes h]), if_pos h, drop_dg1]; exact a57 o t
    · rw [num_end (by rw [s57, dgq_not h]) cnt57, if_neg h]; rfl
theorem a43 (o t : List UInt8) : (acc' P) ⟨9, o, [43]⟩ t = if isDg (bt t 0) then (X' P) o (t.drop (digN t)) else false := by
  cases t with
  | nil => rw [num_nil, cnt43]; rfl
  | cons c t =>
    rw [digN_cons, bt_h]
    by_cases h : isDg c.toNat
    · rw [num_go (by rw [s43, dgq_yes h]), if_pos h, if_pos h, drop_dg1]; exact a57 o t
    · rw [num_bad (by rw [s43, dgq_not h]) cnt43, if_neg h]
/-- The text behind a sign. -/
def unsign (t : List UInt8) : List UInt8 := if bt t 0 = 43 ∨ bt t 0 = 45 then t.drop 1 else t
theorem a101 (o t : List UInt8) : (acc' P) ⟨9, o, [101]⟩ t = if isDg (bt (unsign t) 0) then (X' P) o ((unsign t).drop (digN (unsign t))) else false := by
  cases t with
  | nil => rw [num_nil, cnt101]; rfl
  | cons c t =>
    by_cases h : c.toNat = 43 ∨ c.toNat = 45
    · have hu : unsign (c :: t) = t := by unfold unsign; rw [bt_h, if_pos h]; rfl
      rw [num_go (by rw [s101, if_pos h]), hu]; exact a43 o t
    · have hu : unsign (c :: t) = c :: t := by unfold unsign; rw [bt_h, if_neg h]
      rw [hu, digN_cons, bt_h]
      by_cases h2 : isDg c.toNat
      · rw [num_go (by rw [s101, if_neg h, dgq_yes h2]), if_pos h2, if_pos h2, drop_dg1]; exact a57 o t
      · rw [num_bad (by rw [s101, if_neg h, dgq_not h2]) cnt101, if_neg h2]
theorem EE_e {o : List UInt8} {c : UInt8} {t : List UInt8} (h : c.toNat = 101 ∨ c.toNat = 69) : (EE' P) o (c :: t) = (acc' P) ⟨9, o, [101]⟩ t := by unfold EE'; rw [bt_h, if_pos h]; rfl
theorem EE_x {o : List UInt8} {c : UInt8} {t : List UInt8} (h : ¬ (c.toNat = 101 ∨ c.toNat = 69)) : (EE' P) o (c :: t) = (X' P) o (c :: t) := by unfold EE'; rw [bt_h, if_neg h]
theorem a53 (o : List UInt8) : ∀ t, (acc' P) ⟨9, o, [53]⟩ t = (EE' P) o (t.drop (digN t))
  | [] => by rw [num_nil, cnt53, if_pos rfl]; rfl
  | c :: t => by
    rw [digN_cons]
    by_cases h : isDg c.toNat
    · rw [num_go (by rw [s53, e_not (dg_e h), if_neg (by decide), dgq_yes h]), if_pos h, drop_dg1]; exact a53 o t
    · rw [if_neg h, List.drop_zero]
      by_cases he : c.toNat = 101 ∨ c.toNat = 69
      · rw [num_go (by rw [s53, e_yes he, if_pos rfl]), EE_e he]
      · rw [num_end (by rw [s53, e_not he, if_neg (by decide), dgq_not h]) cnt53, EE_x he]
theorem a46 (o t : List UInt8) : (acc' P) ⟨9, o, [46]⟩ t = if isDg (bt t 0) then (EE' P) o (t.drop (digN t)) else false := by
  cases t with
  | nil => rw [num_nil, cnt46]; rfl
  | cons c t =>
    rw [digN_cons, bt_h]
    by_cases h : isDg c.toNat
    · rw [num_go (by rw [s46, dgq_yes h]), if_pos h, if_pos h, drop_dg1]; exact a53 o t
    · rw [num_bad (by rw [s46, dgq_not h]) cnt46, if_neg h]
theorem FF_p {o : List UInt8} {c : UInt8} {t : List UInt8} (h : c.toNat = 46) : (FF' P) o (c :: t) = (acc' P) ⟨9, o, [46]⟩ t := by unfold FF'; rw [bt_h, if_pos h]; rfl
theorem FF_x {o : List UInt8} {c : UInt8} {t : List UInt8} (h : ¬ c.toNat = 46) : (FF' P) o (c :: t) = (EE' P) o (c :: t) := by unfold FF'; rw [bt_h, if_neg h]
theorem a48 (o t : List UInt8) : (acc' P) ⟨9, o, [48]⟩ t = (FF' P) o t := by
  cases t with
  | nil => rw [num_nil, cnt48, if_pos rfl]; rfl
  | cons c t =>
    by_cases h : c.toNat = 46
    · rw [num_go (by rw [s48, if_pos h]), FF_p h]
    · rw [FF_x h]
      by_cases he : c.toNat = 101 ∨ c.toNat = 69
      · rw [num_go (by rw [s48, if_neg h, e_yes he, if_pos rfl]), EE_e he]
      · rw [num_end (by rw [s48, if_neg h, e_not he, if_neg (by decide)]) cnt48, EE_x he]
theorem a49 (o : List UInt8) : ∀ t, (acc' P) ⟨9, o, [49]⟩ t = (FF' P) o (t.drop (digN t))
  | [] => by rw [num_nil, cnt49, if_pos rfl]; rfl
  | c :: t => by
    rw [digN_cons]
    by_cases h : isDg c.toNat
    · have h46 : ¬ c.toNat = 46 := by unfold isDg at h; omega
      rw [num_go (by rw [s49, if_neg h46, e_not (dg_e h), if_neg (by decide), dgq_yes h]), if_pos h, drop_dg1]; exact a49 o t
    · rw [if_neg h, List.drop_zero]
      by_cases h46 : c.toNat = 46
      · rw [num_go (by rw [s49, if_pos h46]), FF_p h46]
      · rw [FF_x h46]
        by_cases he : c.toNat = 101 ∨ c.toNat = 69
        · rw [num_go (by rw [s49, if_neg h46, e_yes he, if_pos rfl]), EE_e he]
        · rw [num_end (by rw [s49, if_neg h46, e_not he, if_neg (by decide), dgq_not h]) cnt49, EE_x he]
theorem a45 (o t : List UInt8) : (acc' P) ⟨9, o, [45]⟩ t = (GG' P) o t := by
  cases t with
  | nil => rw [num_nil, cnt45]; rfl
  | cons c t =>
    unfold GG'
    rw [bt_h]
    by_cases h0 : c.toNat = 48
    · rw [num_go (by rw [s45, if_pos h0]), if_pos (by rw [h0]; decide), if_pos h0]; exact a48 o t
    · by_cases h : isDg c.toNat
      · rw [num_go (by rw [s45, if_neg h0, dgq_yes h]), if_pos h, if_neg h0, digN_cons, if_pos h, drop_dg1]; exact a49 o t
      · rw [num_bad (by rw [s45, if_neg h0, dgq_not h]) cnt45, if_neg h]
theorem bt_d0 (l : List UInt8) (k : Nat) : bt (l.drop k) 0 = bt l k := by rw [bt_drop, Nat.add_zero]
theorem dd (l : List UInt8) (a b : Nat) : (l.drop a).drop b = l.drop (a + b) := by rw [List.drop_drop]
theorem EE_is (o l : List UInt8) (i : Nat) : (EE' P) o (l.drop i) = (X' P) o (l.drop (numExp l i)) := by
  unfold EE' numExp
  rw [bt_d0]
  by_cases h : bt l i = 101 ∨ bt l i = 69
  · rw [if_pos h, if_pos h, a101, dd]
    have hu : unsign (l.drop (i + 1)) = l.drop (expStart l (i + 1)) := by
      unfold unsign expStart
      rw [bt_d0]
      split
      · rw [dd]
      · rfl
    rw [hu, bt_d0]
    by_cases hd : isDg (bt l (expStart l (i + 1)))
    · have := digN_pos (t := l.drop (expStart l (i + 1))) (by rw [bt_d0]; exact hd)
      rw [if_pos hd, if_pos (by unfold digE; omega), dd]; rfl
    · have := digN_no (t := l.drop (expStart l (i + 1))) (by rw [bt_d0]; exact hd)
      rw [if_neg hd, if_neg (by unfold digE; omega), X_no (by rw [bt_d0]; omega)]
  · rw [if_neg h, if_neg h]
theorem FF_is (o l : List UInt8) (i : Nat) : (FF' P) o (l.drop i) = (X' P) o (l.drop (numExp l (numFrac l i))) := by
  unfold FF'
  rw [bt_d0]
  by_cases h : bt l i = 46
  · rw [if_pos h, a46, dd, bt_d0]
    by_cases hd : isDg (bt l (i + 1))
    · have := digN_pos (t := l.drop (i + 1)) (by rw [bt_d0]; exact hd)
      have hf : numFrac l i = digE l (i + 1) := by unfold numFrac; rw [if_pos ⟨h, by unfold digE; omega⟩]
      rw [if_pos hd, dd, hf]
      exact EE_is o l _
    · have := digN_no (t := l.drop (i + 1)) (by rw [bt_d0]; exact hd)
      have hf : numFrac l i = i := by unfold numFrac; rw [if_neg (fun x => by have := x.2; unfold digE at this; omega)]
      have he : numExp l i = i := by unfold numExp; rw [if_neg (by omega)]
      rw [if_neg hd, hf, he, X_no (by rw [bt_d0]; omega)]
  · have hf : numFrac l i = i := by unfold numFrac; rw [if_neg (fun x => h x.1)]
    rw [if_neg h, hf]
    exact EE_is o l i
/-- A number, from its sign on, or from its first digit on. -/
theorem GG_is (o l : List UInt8) : (GG' P) o (l.drop (numStart l 0)) = match numE l 0 with | none => false | some e => (X' P) o (l.drop e) := by
  obtain ⟨k, hk⟩ : ∃ k, numStart l 0 = k := ⟨_, rfl⟩
  unfold GG' numE
  rw [hk, bt_d0]
  by_cases hd : isDg (bt l k)
  · have := digN_pos (t := l.drop k) (by rw [bt_d0]; exact hd)
    have hne : ¬ digE l k = k := by unfold digE; omega
    rw [if_pos hd, if_neg hne]
    dsimp only
    rw [← FF_is]
    unfold numInt
    by_cases h0 : bt l k = 48
    · rw [if_pos h0, if_pos h0, dd]
    · rw [if_neg h0, if_neg h0, dd]; rfl
  · have := digN_no (t := l.drop k) (by rw [bt_d0]; exact hd)
    rw [if_neg hd, if_pos (by unfold digE; omega)]
/-- Where a value may be, a number is taken as the parser takes it. -/
theorem acc_num (m : Nat) (o : List UInt8) (c : UInt8) (t : List UInt8) (hm : m = 0 ∨ m = 1) (ho : o.length < 32) (hc : c.toNat = 45 ∨ isDg c.toNat) :
    (acc' P) ⟨m, o, []⟩ (c :: t) = match numE (c :: t) 0 with | none => false | some e => (X' P) o ((c :: t).drop e) := by
  have hq : c.toNat = 45 ∨ (48 ≤ c.toNat ∧ c.toNat ≤ 57) := hc
  have hn : nextS ⟨m, o, []⟩ c = beginS ⟨m, o, []⟩ c := by
    unfold nextS
    dsimp only
    rw [if_neg (by omega), if_neg (by omega), if_neg (by omega)]
    unfold outS
    dsimp only
    rw [if_neg (by omega), if_neg (by omega), if_neg (by omega), if_neg (by omega), if_neg (by omega), if_neg (by omega)]
  rw [← GG_is]
  by_cases h45 : c.toNat = 45
  · have hs : numStart (c :: t) 0 = 1 := by unfold numStart; rw [bt_h, if_pos h45]
    have hb : beginS ⟨m, o, []⟩ c = (⟨9, o, [45]⟩, true) := by
      unfold beginS
      dsimp only
      rw [if_neg (by omega), if_neg (by omega), if_neg (by omega), if_neg (by omega), if_pos h45]
    rw [acc_ok (hn.trans hb), hs, List.drop_succ_cons, List.drop_zero]
    exact a45 o t
  · have hd : isDg c.toNat := hc.resolve_left h45
    have hd2 : digit c.toNat := hd
    have hs : numStart (c :: t) 0 = 0 := by unfold numStart; rw [bt_h, if_neg h45]
    have hb : beginS ⟨m, o, []⟩ c = (⟨9, o, (numS [] c.toNat).1⟩, (numS [] c.toNat).2) := by
      unfold beginS
      dsimp only
      rw [if_neg (by omega), if_neg (by omega), if_neg (by omega), if_neg (by omega), if_neg h45, if_pos hd2]
    have hns : numS [] c.toNat = if c.toNat = 48 then ([48], true) else ([49], digB c.toNat) := by simp [numS]
    rw [hs, List.drop_zero]
    unfold GG'
    rw [bt_h, if_pos hd]
    by_cases h0 : c.toNat = 48
    · rw [hns, if_pos h0] at hb
      rw [acc_ok (hn.trans hb), if_pos h0]
      exact a48 o t
    · rw [hns, if_neg h0, dgB, decide_eq_true hd] at hb
      rw [acc_ok (hn.trans hb), if_neg h0, digN_cons, if_pos hd, Nat.add_comm 1, List.drop_succ_cons]
      exact a49 o t
end
end Go.Proofs.Ytmfldffbafamnaa

/- Plain: how the automaton takes a word: as the parser does (chapter 25). -/
namespace Go.Proofs.Ytmfldffbafamnaa
set_option linter.unusedVariables false
set_option linter.unusedSimpArgs false
set_option linter.unusedSectionVars false
theorem byte_all {P : UInt8 → Prop} (h : ∀ c : Fin 256, P (UInt8.ofNat c.val)) (c : UInt8) : P c := by
  have := h ⟨c.toNat, c.toNat_lt⟩
  simpa using this
/-- The rest of a word stands there. -/
def WW' (P : Q → Bool) (r o t : List UInt8) : Bool := if r.isPrefixOf t = true then X' P o (t.drop r.length) else false
section
variable {P : Q → Bool} [hP : OKP P]
theorem next8 (o p : List UInt8) (c : UInt8) : nextS ⟨8, o, p⟩ c = if (wordS (p ++ [c])).2 = true then (⟨5, o, []⟩, true) else (⟨8, o, p ++ [c]⟩, (wordS (p ++ [c])).1) := by
  unfold nextS
  dsimp only
  rw [if_neg (by omega), if_pos rfl]
theorem w_nil (o p : List UInt8) (c0 : UInt8) (r : List UInt8) : (acc' P) ⟨8, o, p⟩ [] = (WW' P) (c0 :: r) o [] := by
  rw [acc_nil, hP.p8]; simp [WW']
theorem w_last {p : List UInt8} {c0 : UInt8} (hk : ∀ c : UInt8, wordS (p ++ [c]) = if c = c0 then (true, true) else (false, false)) (o : List UInt8) : ∀ t, (acc' P) ⟨8, o, p⟩ t = (WW' P) [c0] o t
  | [] => w_nil o p c0 []
  | c :: t => by
    rw [acc_cons, next8, hk]
    unfold WW'
    by_cases h : c = c0
    · subst h; simp [X']
    · have h2 : ¬ c0 = c := fun x => h x.symm
      simp [h, h2]
theorem w_mid {p r : List UInt8} {c0 : UInt8} (hk : ∀ c : UInt8, wordS (p ++ [c]) = if c = c0 then (true, false) else (false, false)) (o : List UInt8) (hn : ∀ t, (acc' P) ⟨8, o, p ++ [c0]⟩ t = (WW' P) r o t) : ∀ t, (acc' P) ⟨8, o, p⟩ t = (WW' P) (c0 :: r) o t
  | [] => w_nil o p c0 r
  | c :: t => by
    rw [acc_cons, next8, hk]
    by_cases h : c = c0
    · subst h
      have h2 := hn t
      unfold WW' at h2 ⊢
      simp [h2]
    · have h2 : ¬ c0 = c := fun x => h x.symm
      unfold WW'
      simp [h, h2]
theorem kT1 (c : UInt8) : wordS ([116] ++ [c]) = if c = 114 then (true, false) else (false, false) := byte_all (P := fun c => wordS ([116] ++ [c]) = if c = 114 then (true, false) else (false, false)) (by decide +kernel) c
theorem kT2 (c : UInt8) : wordS ([116, 114] ++ [c]) = if c = 117 then (true, false) else (false, false) := byte_all (P := fun c => wordS ([116, 114] ++ [c]) = if c = 117 then (true, false) else (false, false)) (by decide +kernel) c
theorem kT3 (c : UInt8) : wordS ([116, 114, 117] ++ [c]) = if c = 101 then (true, true) else (false, false) := byte_all (P := fun c => wordS ([116, 114, 117] ++ [c]) = if c = 101 then (true, true) else (false, false)) (by decide +kernel) c
theorem rT3 (o t : List UInt8) : (acc' P) ⟨8, o, [116, 114, 117]⟩ t = (WW' P) [101] o t := w_last kT3 o t
theorem rT2 (o t : List UInt8) : (acc' P) ⟨8, o, [116, 114]⟩ t = (WW' P) [117, 101] o t := w_mid kT2 o (rT3 o) t
theorem rT1 (o t : List UInt8) : (acc' P) ⟨8, o, [116]⟩ t = (WW' P) [114, 117, 101] o t := w_mid kT1 o (rT2 o) t
theorem kF1 (c : UInt8) : wordS ([102] ++ [c]) = if c = 97 then (true, false) else (false, false) := byte_all (P := fun c => wordS ([102] ++ [c]) = if c = 97 then (true, false) else (false, false)) (by decide +kernel) c
theorem kF2 (c : UInt8) : wordS ([102, 97] ++ [c]) = if c = 108 then (true, false) else (false, false) := byte_all (P := fun c => wordS ([102, 97] ++ [c]) = if c = 108 then (true, false) else (false, false)) (by decide +kernel) c
theorem kF3 (c : UInt8) : wordS ([102, 97, 108] ++ [c]) = if c = 115 then (true, false) else (false, false) := byte_all (P := fun c => wordS ([102, 97, 108] ++ [c]) = if c = 115 then (true, false) else (false, false)) (by decide +kernel) c
theorem kF4 (c : UInt8) : wordS ([102, 97, 108, 115] ++ [c]) = if c = 101 then (true, true) else (false, false) := byte_all (P := fun c => wordS ([102, 97, 108, 115] ++ [c]) = if c = 101 then (true, true) else (false, false)) (by decide +kernel) c
theorem rF4 (o t : List UInt8) : (acc' P) ⟨8, o, [102, 97, 108, 115]⟩ t = (WW' P) [101] o t := w_last kF4 o t
theorem rF3 (o t : List UInt8) : (acc' P) ⟨8, o, [102, 97, 108]⟩ t = (WW' P) [115, 101] o t := w_mid kF3 o (rF4 o) t
theorem rF2 (o t : List UInt8) : (acc' P) ⟨8, o, [102, 97]⟩ t = (WW' P) [108, 115, 101] o t := w_mid kF2 o (rF3 o) t
theorem rF1 (o t : List UInt8) : (acc' P) ⟨8, o, [102]⟩ t = (WW' P) [97, 108, 115, 101] o t := w_mid kF1 o (rF2 o) t
theorem kN1 (c : UInt8) : wordS ([110] ++ [c]) = if c = 117 then (true, false) else (false, false) := byte_all (P := fun c => wordS ([110] ++ [c]) = if c = 117 then (true, false) else (false, false)) (by decide +kernel) c
theorem kN2 (c : UInt8) : wordS ([110, 117] ++ [c]) = if c = 108 then (true, false) else (false, false) := byte_all (P := fun c => wordS ([110, 117] ++ [c]) = if c = 108 then (true, false) else (false, false)) (by decide +kernel) c
theorem kN3 (c : UInt8) : wordS ([110, 117, 108] ++ [c]) = if c = 108 then (true, true) else (false, false) := byte_all (P := fun c => wordS ([110, 117, 108] ++ [c]) = if c = 108 then (true, true) else (false, false)) (by decide +kernel) c
theorem rN3 (o t : List UInt8) : (acc' P) ⟨8, o, [110, 117, 108]⟩ t = (WW' P) [108] o t := w_last kN3 o t
theorem rN2 (o t : List UInt8) : (acc' P) ⟨8, o, [110, 117]⟩ t = (WW' P) [108, 108] o t := w_mid kN2 o (rN3 o) t
theorem rN1 (o t : List UInt8) : (acc' P) ⟨8, o, [110]⟩ t = (WW' P) [117, 108, 108] o t := w_mid kN1 o (rN2 o) t
theorem k0 (c : UInt8) : wordS [c] = if c = 116 ∨ c = 102 ∨ c = 110 then (true, false) else (false, false) := byte_all (P := fun c => wordS [c] = if c = 116 ∨ c = 102 ∨ c = 110 then (true, false) else (false, false)) (by decide +kernel) c
theorem atL_pre (l p : List UInt8) : atL l p 0 = p.isPrefixOf l := by
  unfold atL
  rw [List.drop_zero, Bool.eq_iff_iff]
  simp only [Bool.and_eq_true, decide_eq_true_eq, List.isPrefixOf_iff_prefix, List.prefix_iff_eq_take, Nat.zero_le, true_and]
  exact ⟨fun h => h.symm, fun h => h.symm⟩
/-- Where a value may be, a word is taken as the parser takes it. -/
theorem acc_word (m : Nat) (o : List UInt8) (c : UInt8) (t : List UInt8) (hm : m = 0 ∨ m = 1) (ho : o.length < 32) (h1 : ¬ markK c.toNat) (h2 : ¬ blankK c.toNat) (h3 : c.toNat ≠ 34) (h4 : c.toNat ≠ 45) (h5 : ¬ isDg c.toNat) :
    (acc' P) ⟨m, o, []⟩ (c :: t) = if atL (c :: t) tTrue 0 then (X' P) o ((c :: t).drop 4) else if atL (c :: t) tFalse 0 then (X' P) o ((c :: t).drop 5) else if atL (c :: t) tNull 0 then (X' P) o ((c :: t).drop 4) else false := by
  unfold markK at h1
  unfold blankK at h2
  have h5' : ¬ digit c.toNat := h5
  have hn : nextS ⟨m, o, []⟩ c = (⟨8, o, [c]⟩, (wordS [c]).1) := by
    unfold nextS
    dsimp only
    rw [if_neg (by omega), if_neg (by omega), if_neg (by omega)]
    unfold outS
    dsimp only
    rw [if_neg (by omega), if_neg (by omega), if_neg (by omega), if_neg (by omega), if_neg (by omega), if_neg (by omega)]
    unfold beginS
    dsimp only
    rw [if_neg (by omega), if_neg (by omega), if_neg (by omega), if_neg (by omega), if_neg (by omega), if_neg h5']
  rw [k0] at hn
  rw [atL_pre, atL_pre, atL_pre]
  unfold tTrue tFalse tNull
  by_cases hT : c = 116
  · subst hT
    rw [if_pos (.inl rfl)] at hn
    rw [acc_ok hn, rT1]; unfold WW'; simp
  by_cases hF : c = 102
  · subst hF
    rw [if_pos (.inr (.inl rfl))] at hn
    rw [acc_ok hn, rF1]; unfold WW'; simp
  by_cases hN : c = 110
  · subst hN
    rw [if_pos (.inr (.inr rfl))] at hn
    rw [acc_ok hn, rN1]; unfold WW'; simp
  rw [if_neg (by simp [hT, hF, hN])] at hn
  have q1 : ¬ (116 : UInt8) = c := fun x => hT x.symm
  have q2 : ¬ (102 : UInt8) = c := fun x => hF x.symm
  have q3 : ¬ (110 : UInt8) = c := fun x => hN x.symm
  rw [acc_no (by rw [hn])]
  simp [q1, q2, q3]
end
end Go.Proofs.Ytmfldffbafamnaa

/- Plain: how the automaton takes a string: as the parser does (chapter 25). -/
namespace Go.Proofs.Ytmfldffbafamnaa
set_option linter.unusedVariables false
set_option linter.unusedSimpArgs false
set_option linter.unusedSectionVars false
theorem nat_all {P : Nat → Prop} (h : ∀ c : Fin 256, P c.val) {c : Nat} (hc : c < 256) : P c := h ⟨c, hc⟩
theorem f_hex {c : Nat} (hc : c < 256) : hexB c = decide (wth c < 16) := nat_all (P := fun c => hexB c = decide (wth c < 16)) (by decide +kernel) hc
theorem f_d {c : Nat} (hc : c < 256) : dB c = decide (wth c = 13) := nat_all (P := fun c => dB c = decide (wth c = 13)) (by decide +kernel) hc
theorem f_cf {c : Nat} (hc : c < 256) : cfB c = decide (12 ≤ wth c ∧ wth c < 16) := nat_all (P := fun c => cfB c = decide (12 ≤ wth c ∧ wth c < 16)) (by decide +kernel) hc
theorem f_8 {c : Nat} (hc : c < 256) : hexB c = true → decide (c < 56) = decide (wth c < 8) := nat_all (P := fun c => hexB c = true → decide (c < 56) = decide (wth c < 8)) (by decide +kernel) hc
theorem f_wl (c : UInt8) : decide (c ∈ wl) = decide (letR c.toNat ≠ 0) := byte_all (P := fun c => decide (c ∈ wl) = decide (letR c.toNat ≠ 0)) (by decide +kernel) c
theorem f_128 {c : Nat} (hc : c < 256) : wth c < 16 → c < 128 ∧ c ≠ 0 := nat_all (P := fun c => wth c < 16 → c < 128 ∧ c ≠ 0) (by decide +kernel) hc
theorem f_let {c : Nat} (hc : c < 256) : letR c ≠ 0 → c < 128 ∧ c ≠ 0 := nat_all (P := fun c => letR c ≠ 0 → c < 128 ∧ c ≠ 0) (by decide +kernel) hc
section
variable {P : Q → Bool} [hP : OKP P]
variable {q : Nat} (hq : q = 6 ∨ q = 7) (o : List UInt8)
include hq
theorem nextq (p : List UInt8) (c : UInt8) : nextS ⟨q, o, p⟩ c = quoteS ⟨q, o, p⟩ c := by
  unfold nextS
  dsimp only
  rw [if_pos hq]
theorem q_nil {p : List UInt8} (hp : p ≠ []) : (acc' P) ⟨q, o, p⟩ [] = false := by
  rw [acc_nil, hP.pq q o p hq hp]
theorem q_esc {p : List UInt8} {c : UInt8} (h : p ≠ [] ∨ c.toNat = 92) (t : List UInt8) : (acc' P) ⟨q, o, p⟩ (c :: t) = if (escS p c).2 = true then (acc' P) ⟨q, o, (escS p c).1⟩ t else false := by
  rw [acc_cons, nextq hq]
  unfold quoteS
  dsimp only
  rw [if_pos h]
/-- A byte of an escape that goes on. -/
theorem q_on {p : List UInt8} (hp : p ≠ []) {B : Nat → Bool} (h0 : B 0 = false) (hs : ∀ c : UInt8, escS p c = (p ++ [c], B c.toNat)) (t : List UInt8) :
    (acc' P) ⟨q, o, p⟩ t = if B (bt t 0) = true then (acc' P) ⟨q, o, p ++ [UInt8.ofNat (bt t 0)]⟩ (t.drop 1) else false := by
  cases t with
  | nil => rw [q_nil hq o hp, show bt [] 0 = 0 from rfl, h0]; rfl
  | cons c t =>
    rw [q_esc hq o (.inl hp), hs, bt_h]
    simp
/-- The last byte of an escape. -/
theorem q_last {p : List UInt8} (hp : p ≠ []) {B : Nat → Bool} (h0 : B 0 = false) (hs : ∀ c : UInt8, escS p c = ([], B c.toNat)) (t : List UInt8) :
    (acc' P) ⟨q, o, p⟩ t = if B (bt t 0) = true then (acc' P) ⟨q, o, []⟩ (t.drop 1) else false := by
  cases t with
  | nil => rw [q_nil hq o hp, show bt [] 0 = 0 from rfl, h0]; rfl
  | cons c t =>
    rw [q_esc hq o (.inl hp), hs, bt_h]
    simp
/-- The second half of a pair stands there. -/
def lowU (t : List UInt8) : Bool := (bt t 0 == 92) && ((bt t 1 == 117) && (dB (bt t 2) && ((cfB (bt t 3) && hexB (bt t 3)) && (hexB (bt t 4) && hexB (bt t 5)))))
theorem q_6 {p : List UInt8} (hp : p.length = 6) (t : List UInt8) : (acc' P) ⟨q, o, p⟩ t = if lowU t = true then (acc' P) ⟨q, o, []⟩ (t.drop 6) else false := by
  have hne : ∀ {p : List UInt8} {n : Nat}, p.length = n + 1 → p ≠ [] := fun h e => by rw [e] at h; simp at h
  have hl : ∀ (p : List UInt8) (x : UInt8), (p ++ [x]).length = p.length + 1 := fun p x => by simp
  have e6 : ∀ (p : List UInt8) (c : UInt8), p.length = 6 → escS p c = (p ++ [c], c.toNat == 92) := fun p c h => by
    unfold escS; dsimp only
    rw [if_neg (by omega), if_neg (by omega), if_pos h]
    congr 1
    rw [Bool.eq_iff_iff]; simp; omega
  have e7 : ∀ (p : List UInt8) (c : UInt8), p.length = 7 → escS p c = (p ++ [c], c.toNat == 117) := fun p c h => by
    unfold escS; dsimp only
    rw [if_neg (by omega), if_neg (by omega), if_neg (by omega), if_pos h]
    congr 1
    rw [Bool.eq_iff_iff]; simp; omega
  have e8 : ∀ (p : List UInt8) (c : UInt8), p.length = 8 → escS p c = (p ++ [c], dB c.toNat) := fun p c h => by
    unfold escS; dsimp only
    rw [if_neg (by omega), if_neg (by omega), if_neg (by omega), if_neg (by omega), if_pos h]
  have e9 : ∀ (p : List UInt8) (c : UInt8), p.length = 9 → escS p c = (p ++ [c], cfB c.toNat && hexB c.toNat) := fun p c h => by
    unfold escS; dsimp only
    rw [if_neg (by omega), if_neg (by omega), if_neg (by omega), if_neg (by omega), if_neg (by omega), if_pos h]
  have e10 : ∀ (p : List UInt8) (c : UInt8), p.length = 10 → escS p c = (p ++ [c], hexB c.toNat) := fun p c h => by
    unfold escS; dsimp only
    rw [if_neg (by omega), if_neg (by omega), if_neg (by omega), if_neg (by omega), if_neg (by omega), if_neg (by omega), if_neg (by omega), if_pos (by omega)]
  have e11 : ∀ (p : List UInt8) (c : UInt8), p.length = 11 → escS p c = ([], hexB c.toNat) := fun p c h => by
    unfold escS; dsimp only
    rw [if_neg (by omega), if_neg (by omega), if_neg (by omega), if_neg (by omega), if_neg (by omega), if_neg (by omega), if_neg (by omega), if_neg (by omega), if_neg (by omega)]
  have b1 : ∀ k i, bt (t.drop k) i = bt t (k + i) := fun k i => bt_drop t k i
  rw [q_on hq o (hne hp) (B := fun c => c == 92) rfl (fun c => e6 p c hp)]
  rw [q_on hq o (B := fun c => c == 117) (hne (hl _ _)) rfl (fun c => e7 _ c (by rw [hl, hp]))]
  rw [q_on hq o (B := dB) (hne (hl _ _)) rfl (fun c => e8 _ c (by rw [hl, hl, hp]))]
  rw [q_on hq o (B := fun c => cfB c && hexB c) (hne (hl _ _)) rfl (fun c => e9 _ c (by rw [hl, hl, hl, hp]))]
  rw [q_on hq o (B := hexB) (hne (hl _ _)) rfl (fun c => e10 _ c (by rw [hl, hl, hl, hl, hp]))]
  rw [q_last hq o (B := hexB) (hne (hl _ _)) rfl (fun c => e11 _ c (by rw [hl, hl, hl, hl, hl, hp]))]
  simp only [List.drop_drop, b1, Nat.add_zero, Nat.reduceAdd]
  unfold lowU
  cases (bt t 0 == 92) <;> cases (bt t 1 == 117) <;> cases dB (bt t 2) <;> cases (cfB (bt t 3) && hexB (bt t 3)) <;> cases hexB (bt t 4) <;> cases hexB (bt t 5) <;> simp
/-- Four digits stand there, and they are no second half. -/
def fourU (t : List UInt8) : Bool := hexB (bt t 0) && ((!(dB (bt t 0) && cfB (bt t 1)) && hexB (bt t 1)) && (hexB (bt t 2) && hexB (bt t 3)))
theorem q_2 (t : List UInt8) : (acc' P) ⟨q, o, [92, 117]⟩ t = if fourU t = true then (if (!dB (bt t 0) || decide (bt t 1 < 56)) = true then (acc' P) ⟨q, o, []⟩ (t.drop 4) else if lowU (t.drop 4) = true then (acc' P) ⟨q, o, []⟩ (t.drop 10) else false) else false := by
  have b1 : ∀ k i, bt (t.drop k) i = bt t (k + i) := fun k i => bt_drop t k i
  have hb : ∀ i, (UInt8.ofNat (bt t i)).toNat = bt t i := fun i => by have := bt_lt t i; simp [Nat.mod_eq_of_lt this]
  rw [q_on hq o (B := hexB) (by simp) rfl (fun c => by unfold escS; dsimp only; rw [if_neg (by simp), if_neg (by simp), if_neg (by simp), if_neg (by simp), if_neg (by simp), if_neg (by simp), if_neg (by simp), if_pos (by simp)])]
  generalize ha : UInt8.ofNat (bt t 0) = a
  have haN : a.toNat = bt t 0 := by rw [← ha, hb]
  rw [q_on hq o (p := [92, 117] ++ [a]) (B := fun c => !(dB a.toNat && cfB c) && hexB c) (by simp) (by simp [show cfB 0 = false from rfl, show hexB 0 = false from rfl]) (fun c => by
    unfold escS; dsimp only
    rw [if_neg (by simp), if_neg (by simp), if_neg (by simp), if_neg (by simp), if_neg (by simp), if_neg (by simp), if_pos (by simp)]
    have hh : halfB ([92, 117] ++ [a] ++ [c]) = dB a.toNat := by unfold halfB; simp [bt]
    rw [hh]
    cases dB a.toNat <;> cases cfB c.toNat <;> simp)]
  generalize hbb : UInt8.ofNat (bt (t.drop 1) 0) = b
  have hbN : b.toNat = bt t 1 := by rw [← hbb, b1]; exact hb 1
  rw [q_on hq o (p := [92, 117] ++ [a] ++ [b]) (B := hexB) (by simp) rfl (fun c => by unfold escS; dsimp only; rw [if_neg (by simp), if_neg (by simp), if_neg (by simp), if_neg (by simp), if_neg (by simp), if_neg (by simp), if_neg (by simp), if_pos (by simp)])]
  generalize hcc : UInt8.ofNat (bt ((t.drop 1).drop 1) 0) = c
  have hS : ∀ d : UInt8, escS ([92, 117] ++ [a] ++ [b] ++ [c]) d = if (!dB (bt t 0) || decide (bt t 1 < 56)) = true then ([], hexB d.toNat) else ([92, 117] ++ [a] ++ [b] ++ [c] ++ [d], hexB d.toNat) := fun d => by
    unfold escS; dsimp only
    rw [if_neg (by simp), if_neg (by simp), if_neg (by simp), if_neg (by simp), if_neg (by simp), if_neg (by simp), if_neg (by simp), if_neg (by simp), if_pos (by simp)]
    have hh : halfB ([92, 117] ++ [a] ++ [b] ++ [c] ++ [d]) = dB (bt t 0) := by unfold halfB; rw [← haN]; simp [bt]
    have h3 : bt ([92, 117] ++ [a] ++ [b] ++ [c] ++ [d]) 3 = bt t 1 := by rw [← hbN]; simp [bt]
    rw [hh, h3]
  rw [haN]
  by_cases hx : (!dB (bt t 0) || decide (bt t 1 < 56)) = true
  · rw [q_last hq o (p := [92, 117] ++ [a] ++ [b] ++ [c]) (B := hexB) (by simp) rfl (fun d => by rw [hS d, if_pos hx])]
    rw [if_pos hx]
    simp only [List.drop_drop, b1, Nat.add_zero, Nat.reduceAdd]
    unfold fourU
    cases hexB (bt t 0) <;> cases (!(dB (bt t 0) && cfB (bt t 1)) && hexB (bt t 1)) <;> cases hexB (bt t 2) <;> cases hexB (bt t 3) <;> simp
  · rw [q_on hq o (p := [92, 117] ++ [a] ++ [b] ++ [c]) (B := hexB) (by simp) rfl (fun d => by rw [hS d, if_neg hx])]
    rw [q_6 hq o (by simp), if_neg hx]
    simp only [List.drop_drop, b1, Nat.add_zero, Nat.reduceAdd]
    unfold fourU
    cases hexB (bt t 0) <;> cases (!(dB (bt t 0) && cfB (bt t 1)) && hexB (bt t 1)) <;> cases hexB (bt t 2) <;> cases hexB (bt t 3) <;> simp
end
end Go.Proofs.Ytmfldffbafamnaa

/- Plain: how the automaton takes a string: as the parser does (chapter 25). -/
namespace Go.Proofs.Ytmfldffbafamnaa
set_option linter.unusedVariables false
set_option linter.unusedSimpArgs false
set_option linter.unusedSectionVars false
theorem byteAt_hex (l : List UInt8) (k : Nat) : byteAt l k = if (hexB (bt l k) && hexB (bt l (k + 1))) = true then some (16 * wth (bt l k) + wth (bt l (k + 1))) else none := by
  unfold byteAt
  rw [f_hex (bt_lt l k), f_hex (bt_lt l (k + 1))]
  by_cases h1 : wth (bt l k) < 16
  · by_cases h2 : wth (bt l (k + 1)) < 16
    · have h3 := bt_pos_lt (f_128 (bt_lt l (k + 1)) h2).2
      rw [if_pos ⟨by omega, h1, h2⟩, decide_eq_true h1, decide_eq_true h2]; rfl
    · rw [if_neg (fun x => h2 x.2.2), decide_eq_false h2, Bool.and_false]; rfl
  · rw [if_neg (fun x => h1 x.2.1), decide_eq_false h1, Bool.false_and]; rfl
/-- The number that four digits count. -/
def num4 (l : List UInt8) (k : Nat) : Nat := 256 * (16 * wth (bt l k) + wth (bt l (k + 1))) + (16 * wth (bt l (k + 2)) + wth (bt l (k + 3)))
def hex4 (l : List UInt8) (k : Nat) : Bool := (hexB (bt l k) && hexB (bt l (k + 1))) && (hexB (bt l (k + 2)) && hexB (bt l (k + 3)))
theorem unit_hex (l : List UInt8) (k : Nat) : unitAt l k = if bt l k = 92 ∧ bt l (k + 1) = 117 ∧ hex4 l (k + 2) = true then some (num4 l (k + 2)) else none := by
  unfold unitAt
  rw [byteAt_hex, byteAt_hex]
  unfold hex4 num4
  rw [show k + 2 + 2 = k + 4 from rfl, show k + 2 + 1 = k + 3 from rfl, show k + 2 + 3 = k + 5 from rfl, show k + 4 + 1 = k + 5 from rfl]
  by_cases h1 : bt l k = 92 ∧ bt l (k + 1) = 117
  · rw [if_pos h1]
    cases (hexB (bt l (k + 2)) && hexB (bt l (k + 3))) <;> cases (hexB (bt l (k + 4)) && hexB (bt l (k + 5))) <;> simp [h1]
  · rw [if_neg h1, if_neg (fun x => h1 ⟨x.1, x.2.1⟩)]
section
variable {P : Q → Bool} [hP : OKP P]
variable {q : Nat} (hq : q = 6 ∨ q = 7) (o : List UInt8)
include hq
/-- An escape: the automaton takes just what the parser takes. -/
theorem esc_acc (t : List UInt8) : (acc' P) ⟨q, o, []⟩ (92 :: t) = match escJ (92 :: t) with | none => false | some p => (acc' P) ⟨q, o, []⟩ ((92 :: t).drop p.2) := by
  have e0 : escS [] 92 = ([92], true) := by decide
  rw [q_esc hq o (.inr rfl), e0, if_pos rfl]
  show (acc' P) ⟨q, o, [92]⟩ t = _
  cases t with
  | nil => rw [q_nil hq o (by simp)]; rfl
  | cons c t =>
    have e1 : escS [92] c = if c.toNat = 117 then ([92] ++ [c], true) else ([], decide (c ∈ wl)) := by
      unfold escS; dsimp only; rw [if_neg (by simp), if_pos (by simp)]
    have hb1 : bt (92 :: c :: t) 1 = c.toNat := by simp [bt]
    rw [q_esc hq o (.inl (by simp)), e1]
    unfold escJ
    rw [hb1]
    by_cases h117 : c.toNat = 117
    · have hc : c = 117 := UInt8.toNat.inj h117
      subst hc
      rw [if_pos h117, if_pos rfl, if_neg (by decide)]
      show (acc' P) ⟨q, o, [92, 117]⟩ t = _
      rw [q_2 hq]
      have hs : ∀ i, bt (92 :: 117 :: t) (i + 2) = bt t i := fun i => by simp [bt]
      rw [unit_hex, unit_hex]
      have h92 : bt (92 :: 117 :: t) 0 = 92 := by simp [bt]
      have h4 : hex4 (92 :: 117 :: t) (0 + 2) = hex4 t 0 := by unfold hex4; simp only [Nat.zero_add, ← hs]
      have n4 : num4 (92 :: 117 :: t) (0 + 2) = num4 t 0 := by unfold num4; simp only [Nat.zero_add, ← hs]
      have h8 : hex4 (92 :: 117 :: t) (6 + 2) = hex4 t 6 := by unfold hex4; simp only [← hs]
      have n8 : num4 (92 :: 117 :: t) (6 + 2) = num4 t 6 := by unfold num4; simp only [← hs]
      have b6 : bt (92 :: 117 :: t) 6 = bt t 4 := hs 4
      have b7 : bt (92 :: 117 :: t) (6 + 1) = bt t 5 := hs 5
      rw [h92, show bt (92 :: 117 :: t) (0 + 1) = 117 from hb1, h4, n4, h8, n8, b6, b7]
      have b1 : ∀ k i, bt (t.drop k) i = bt t (k + i) := fun k i => bt_drop t k i
      have L := fun i => bt_lt t i
      by_cases hh : hex4 t 0 = true
      · have hU : (if (92 : Nat) = 92 ∧ (117 : Nat) = 117 ∧ hex4 t 0 = true then some (num4 t 0) else none) = some (num4 t 0) := if_pos ⟨rfl, rfl, hh⟩
        rw [hU]
        dsimp only
        have hh' := hh
        unfold hex4 at hh'
        simp only [Bool.and_eq_true, Nat.zero_add] at hh'
        obtain ⟨⟨g0, g1⟩, g2, g3⟩ := hh'
        have w0 : wth (bt t 0) < 16 := by rw [f_hex (L 0)] at g0; simpa using g0
        have w1 : wth (bt t 1) < 16 := by rw [f_hex (L 1)] at g1; simpa using g1
        have w2 : wth (bt t 2) < 16 := by rw [f_hex (L 2)] at g2; simpa using g2
        have w3 : wth (bt t 3) < 16 := by rw [f_hex (L 3)] at g3; simpa using g3
        have hd0 := f_d (L 0)
        have hc1 := f_cf (L 1)
        have h81 := f_8 (L 1) g1
        have hn4 : num4 t 0 = 256 * (16 * wth (bt t 0) + wth (bt t 1)) + (16 * wth (bt t 2) + wth (bt t 3)) := by unfold num4; rfl
        by_cases hlow : 56320 ≤ num4 t 0 ∧ num4 t 0 < 57344
        · have a1 : wth (bt t 0) = 13 := by omega
          have a2 : 12 ≤ wth (bt t 1) := by omega
          have hf : fourU t = false := by unfold fourU; rw [hd0, hc1, decide_eq_true a1, decide_eq_true ⟨a2, w1⟩]; simp
          rw [if_pos hlow, hf]; rfl
        · have hf : fourU t = true := by
            unfold fourU
            rw [g0, g1, g2, g3, hd0, hc1]
            by_cases a1 : wth (bt t 0) = 13
            · have a2 : ¬ (12 ≤ wth (bt t 1) ∧ wth (bt t 1) < 16) := by omega
              rw [decide_eq_false a2]; simp
            · rw [decide_eq_false a1]; simp
          rw [if_neg hlow, hf, if_pos rfl]
          by_cases hhi : 55296 ≤ num4 t 0 ∧ num4 t 0 < 56320
          · have a1 : wth (bt t 0) = 13 := by omega
            have a2 : ¬ wth (bt t 1) < 8 := by omega
            have hx : ¬ (!dB (bt t 0) || decide (bt t 1 < 56)) = true := by rw [hd0, h81, decide_eq_true a1, decide_eq_false a2]; decide
            rw [if_pos hhi, if_neg hx]
            have hlu : lowU (t.drop 4) = decide (bt t 4 = 92 ∧ bt t 5 = 117 ∧ hex4 t 6 = true ∧ 56320 ≤ num4 t 6 ∧ num4 t 6 < 57344) := by
              unfold lowU
              simp only [b1, Nat.add_zero, Nat.reduceAdd]
              rw [Bool.eq_iff_iff]
              simp only [Bool.and_eq_true, beq_iff_eq, decide_eq_true_eq]
              have f6 := f_d (L 6)
              have f7 := f_cf (L 7)
              have x6 := f_hex (L 6)
              have x7 := f_hex (L 7)
              have x8 := f_hex (L 8)
              have x9 := f_hex (L 9)
              have hn : num4 t 6 = 256 * (16 * wth (bt t 6) + wth (bt t 7)) + (16 * wth (bt t 8) + wth (bt t 9)) := rfl
              have hx4 : (hex4 t 6 = true) ↔ (wth (bt t 6) < 16 ∧ wth (bt t 7) < 16) ∧ wth (bt t 8) < 16 ∧ wth (bt t 9) < 16 := by
                unfold hex4
                simp only [Bool.and_eq_true, Nat.reduceAdd]
                rw [x6, x7, x8, x9]
                simp only [decide_eq_true_eq]
              rw [hx4, f6, f7, x7, x8, x9, hn]
              simp only [decide_eq_true_eq]
              constructor
              · rintro ⟨k1, k2, k3, ⟨k4, k5⟩, k6, k7⟩
                exact ⟨k1, k2, ⟨⟨by omega, k5⟩, k6, k7⟩, by omega, by omega⟩
              · rintro ⟨k1, k2, ⟨⟨k3, k4⟩, k5, k6⟩, k7, k8⟩
                exact ⟨k1, k2, by omega, ⟨⟨by omega, k4⟩, k4⟩, k5, k6⟩
            rw [hlu]
            by_cases hu : bt t 4 = 92 ∧ bt t 5 = 117 ∧ hex4 t 6 = true
            · rw [if_pos hu]
              dsimp only
              by_cases hl2 : 56320 ≤ num4 t 6 ∧ num4 t 6 < 57344
              · rw [if_pos hl2, if_pos (by simpa using ⟨hu.1, hu.2.1, hu.2.2, hl2⟩)]
                rfl
              · rw [if_neg hl2, if_neg (by simp only [decide_eq_true_eq]; exact fun x => hl2 x.2.2.2)]
            · rw [if_neg hu, if_neg (by simp only [decide_eq_true_eq]; exact fun x => hu ⟨x.1, x.2.1, x.2.2.1⟩)]
          · have hx : (!dB (bt t 0) || decide (bt t 1 < 56)) = true := by
              rw [hd0, h81]
              by_cases a1 : wth (bt t 0) = 13
              · have a2 : wth (bt t 1) < 8 := by omega
                rw [decide_eq_true a2]; simp
              · rw [decide_eq_false a1]; simp
            rw [if_neg hhi, if_pos hx]; rfl
      · have hU : (if (92 : Nat) = 92 ∧ (117 : Nat) = 117 ∧ hex4 t 0 = true then some (num4 t 0) else none) = none := if_neg (fun x => hh x.2.2)
        rw [hU]
        have hf : fourU t = false := by
          unfold fourU
          unfold hex4 at hh
          simp only [Nat.zero_add] at hh
          revert hh
          cases hexB (bt t 0) <;> cases hexB (bt t 1) <;> cases hexB (bt t 2) <;> cases hexB (bt t 3) <;> simp
        rw [hf]; rfl
    · rw [if_neg h117, f_wl]
      by_cases hl : letR c.toNat ≠ 0
      · rw [if_pos hl, decide_eq_true hl, if_pos rfl]; rfl
      · rw [if_neg hl, decide_eq_false hl, if_neg (by decide)]
        rw [unit_hex, if_neg (fun x => h117 (by have := x.2.1; rwa [show bt (92 :: c :: t) (0 + 1) = c.toNat from hb1] at this))]
end
end Go.Proofs.Ytmfldffbafamnaa

/- Plain: how the automaton takes a whole string: as the parser does (chapter 25). -/
namespace Go.Proofs.Ytmfldffbafamnaa
set_option linter.unusedVariables false
set_option linter.unusedSimpArgs false
set_option linter.unusedSectionVars false
theorem good_drop : ∀ (n : Nat) (l : List UInt8), n ≤ l.length → (∀ i, i < n → bt l i < 128) → good (l.drop n) = good l
  | 0, l, _, _ => rfl
  | n + 1, [], hl, _ => by simp at hl
  | n + 1, c :: t, hl, h => by
    have h0 := h 0 (by omega)
    rw [bt_h] at h0
    rw [List.drop_succ_cons, good_ascii h0]
    exact good_drop n t (by simpa using hl) (fun i hi => by have := h (i + 1) (by omega); rwa [bt_cs] at this)
theorem unit_low {l : List UInt8} {k v : Nat} (h : unitAt l k = some v) : ∀ i, k ≤ i → i < k + 6 → bt l i < 128 := by
  rw [unit_hex] at h
  split at h
  · rename_i h1
    obtain ⟨h2, h3, h4⟩ := h1
    unfold hex4 at h4
    simp only [Bool.and_eq_true] at h4
    obtain ⟨⟨g0, g1⟩, g2, g3⟩ := h4
    rw [f_hex (bt_lt l _)] at g0 g1 g2 g3
    simp only [decide_eq_true_eq] at g0 g1 g2 g3
    have k0 := (f_128 (bt_lt l _) g0).1
    have k1 := (f_128 (bt_lt l _) g1).1
    have k2 := (f_128 (bt_lt l _) g2).1
    have k3 := (f_128 (bt_lt l _) g3).1
    intro i hi hi2
    have : i = k ∨ i = k + 1 ∨ i = k + 2 ∨ i = k + 2 + 1 ∨ i = k + 2 + 2 ∨ i = k + 2 + 3 := by omega
    rcases this with rfl | rfl | rfl | rfl | rfl | rfl
    · omega
    · omega
    · exact k0
    · exact k1
    · exact k2
    · exact k3
  · cases h
theorem esc_good {l : List UInt8} {r n : Nat} (h92 : bt l 0 = 92) (h : escJ l = some (r, n)) : good (l.drop n) = good l := by
  have hb := escJ_bound h
  refine good_drop n l hb.2.2.2 ?_
  unfold escJ at h
  split at h
  · rename_i h1
    simp only [Option.some.injEq, Prod.mk.injEq] at h
    obtain ⟨_, rfl⟩ := h
    have h2 := (f_let (bt_lt l 1) h1).1
    intro i hi
    have : i = 0 ∨ i = 1 := by omega
    rcases this with rfl | rfl <;> omega
  · split at h
    · cases h
    · rename_i a ha
      have u0 := unit_low ha
      split at h
      · cases h
      · split at h
        · split at h
          · cases h
          · rename_i b hb2
            have u6 := unit_low hb2
            split at h
            · simp only [Option.some.injEq, Prod.mk.injEq] at h
              obtain ⟨_, rfl⟩ := h
              intro i hi
              rcases Nat.lt_or_ge i 6 with h7 | h7
              · exact u0 i (by omega) (by omega)
              · exact u6 i h7 (by omega)
            · cases h
        · simp only [Option.some.injEq, Prod.mk.injEq] at h
          obtain ⟨_, rfl⟩ := h
          intro i hi
          exact u0 i (by omega) (by omega)
theorem enc_big {n : Nat} (hr : isRune (n : Int)) (h : 128 ≤ n) : ∀ b ∈ enc (n : Int), 128 ≤ b.toNat := by
  have hn : rune (n : Int) = n := by unfold rune; rw [if_pos hr]; rfl
  have hn2 : n ≤ 1114111 := by unfold isRune at hr; omega
  intro b hb
  unfold enc at hb
  rw [hn, List.mem_map] at hb
  obtain ⟨y, hy, rfl⟩ := hb
  unfold encN at hy
  have hyy : 128 ≤ y ∧ y < 256 := by
    split at hy
    · omega
    split at hy
    · simp at hy; omega
    split at hy
    · simp at hy; omega
    · simp at hy; omega
  rw [of8 hyy.2]; exact hyy.1
section
variable {P : Q → Bool} [hP : OKP P]
variable {q : Nat} (hq : q = 6 ∨ q = 7) (o : List UInt8)
include hq
theorem q_pass : ∀ (a t : List UInt8), (∀ b ∈ a, 32 ≤ b.toNat ∧ b.toNat ≠ 34 ∧ b.toNat ≠ 92) → (acc' P) ⟨q, o, []⟩ (a ++ t) = (acc' P) ⟨q, o, []⟩ t
  | [], t, _ => rfl
  | c :: a, t, h => by
    have hc := h c (by simp)
    have hn : nextS ⟨q, o, []⟩ c = (⟨q, o, []⟩, true) := by
      rw [nextq hq]
      unfold quoteS
      dsimp only
      rw [if_neg (by simp; exact hc.2.2), if_neg (fun x => hc.2.1 x.1), if_neg hc.2.1, decide_eq_true (by omega)]
    rw [List.cons_append, acc_ok hn]
    exact q_pass a t (fun b hb => h b (by simp [hb]))
theorem q_close {c : UInt8} (hc : c.toNat = 34) (t : List UInt8) : (acc' P) ⟨q, o, []⟩ (c :: t) = (acc' P) ⟨if q = 7 then 4 else 5, o, []⟩ t := by
  have hn : nextS ⟨q, o, []⟩ c = (⟨if q = 7 then 4 else 5, o, []⟩, true) := by
    rw [nextq hq]
    unfold quoteS
    dsimp only
    rw [if_neg (by simp; omega)]
    by_cases h : q = 7
    · rw [if_pos ⟨hc, h⟩, if_pos h]
    · rw [if_neg (fun x => h x.2), if_pos hc, if_neg h]
  exact acc_ok hn
theorem q_low {c : UInt8} (hc : c.toNat < 32) (t : List UInt8) : (acc' P) ⟨q, o, []⟩ (c :: t) = false := by
  refine acc_no ?_
  rw [nextq hq]
  unfold quoteS
  dsimp only
  rw [if_neg (by simp; omega), if_neg (by omega), if_neg (by omega), decide_eq_false (by omega)]
end
section
variable {q : Nat} (hq : q = 6 ∨ q = 7) (o : List UInt8)
include hq
theorem q_nil0 : (acc' endS) ⟨q, o, []⟩ [] = false := by
  rw [acc_nil]
  rcases hq with rfl | rfl <;> simp [endS]
/-- A string's text, up to its last sign. -/
theorem acc_str : ∀ (m : Nat) (l : List UInt8), l.length ≤ m → good l = true →
    ((acc' endS) ⟨q, o, []⟩ l = match strJ l with | none => false | some p => (acc' endS) ⟨if q = 7 then 4 else 5, o, []⟩ (l.drop p.2)) ∧ ∀ p, strJ l = some p → good (l.drop p.2) = true
  | m, [], _, _ => ⟨by rw [q_nil0 hq]; rfl, fun p h => by rw [strJ_nil] at h; cases h⟩
  | 0, _ :: _, hl, _ => by simp at hl
  | m + 1, c :: t, hl, hg => by
    have h0 : c :: t ≠ [] := by simp
    rw [strJ_step h0, bt_h]
    by_cases h34 : c.toNat = 34
    · rw [if_pos h34]
      refine ⟨q_close hq o h34 t, fun p h => ?_⟩
      cases h
      have : good (c :: t) = good t := good_ascii (by omega) t
      rw [this] at hg
      exact hg
    rw [if_neg h34]
    have key : ∀ r n, oneJ (c :: t) = some (r, n) → good ((c :: t).drop n) = true → (acc' endS) ⟨q, o, []⟩ (c :: t) = (acc' endS) ⟨q, o, []⟩ ((c :: t).drop n) →
        (((acc' endS) ⟨q, o, []⟩ (c :: t) = match (match oneJ (c :: t) with | none => none | some (r, n) => (strJ ((c :: t).drop n)).map fun (p : List UInt8 × Nat) => (enc r ++ p.1, n + p.2)) with | none => false | some p => (acc' endS) ⟨if q = 7 then 4 else 5, o, []⟩ ((c :: t).drop p.2)) ∧
          ∀ p, (match oneJ (c :: t) with | none => none | some (r, n) => (strJ ((c :: t).drop n)).map fun (p : List UInt8 × Nat) => (enc r ++ p.1, n + p.2)) = some p → good ((c :: t).drop p.2) = true) := by
      intro r n ho hgd ha
      have hb := oneJ_bound ho
      rw [ho, ha]
      dsimp only
      have ih := acc_str m ((c :: t).drop n) (by rw [List.length_drop]; simp only [List.length_cons] at *; omega) hgd
      cases hs : strJ ((c :: t).drop n) with
      | none => exact ⟨by rw [ih.1, hs]; rfl, fun p h => by cases h⟩
      | some p =>
        refine ⟨?_, fun p' h => ?_⟩
        · rw [ih.1, hs]
          show (acc' endS) _ (((c :: t).drop n).drop p.2) = (acc' endS) _ ((c :: t).drop (n + p.2))
          rw [List.drop_drop]
        · cases h
          have := ih.2 p hs
          rw [List.drop_drop] at this
          exact this
    by_cases h92 : c.toNat = 92
    · have hc : c = 92 := UInt8.toNat.inj h92
      subst hc
      have ho : oneJ (92 :: t) = escJ (92 :: t) := by unfold oneJ; rw [if_neg h0, bt_h, if_pos h92]
      have he := esc_acc (P := endS) hq o t
      cases hx : escJ (92 :: t) with
      | none =>
        rw [hx] at he
        rw [ho, hx]
        exact ⟨he, fun p h => by cases h⟩
      | some p =>
        obtain ⟨r, n⟩ := p
        rw [hx] at he
        exact key r n (ho.trans hx) (by rw [esc_good (by rw [bt_h]; rfl) hx]; exact hg) he
    · have hgt := good_take h0 hg
      have ho : oneJ (c :: t) = if (next (c :: t)).1 < 32 ∨ (next (c :: t)).1 = 34 ∨ ((next (c :: t)).1 = 65533 ∧ (next (c :: t)).2 = 1) then none else some (next (c :: t)) := by
        unfold oneJ; rw [if_neg h0, bt_h, if_neg h92]
      have hrn := next_rune_ h0
      obtain ⟨r, hr⟩ : ∃ r, (next (c :: t)).1 = r := ⟨_, rfl⟩
      obtain ⟨n, hn⟩ : ∃ n, (next (c :: t)).2 = n := ⟨_, rfl⟩
      have hnx : next (c :: t) = (r, n) := by rw [← hr, ← hn]
      rw [hr, hn] at hgt
      rw [hr] at hrn
      obtain ⟨g1, g2, g3⟩ := hgt
      have hbad : ¬ (r = 65533 ∧ n = 1) := by
        rw [good_cons h0, hr, hn] at hg
        rintro ⟨rfl, rfl⟩
        simp at hg
      have hhead := enc_head hrn ((c :: t).drop n)
      rw [← g1, bt_h] at hhead
      rw [hnx] at ho
      dsimp only at ho
      by_cases h32 : c.toNat < 32
      · have hr32 : r < 32 := by rcases hhead with h | h <;> omega
        rw [if_pos (.inl hr32)] at ho
        rw [ho]
        exact ⟨q_low hq o h32 t, fun p h => by cases h⟩
      · have hno : ¬ (r < 32 ∨ r = 34 ∨ (r = 65533 ∧ n = 1)) := by
          intro h
          rcases h with h | h | h
          · rcases hhead with h2 | h2 <;> omega
          · rcases hhead with h2 | h2 <;> omega
          · exact hbad h
        rw [if_neg hno] at ho
        refine key r n ho g3 ?_
        conv => lhs; rw [g1]
        refine q_pass hq o _ _ (fun b hb => ?_)
        rcases hhead with ⟨h2, h3⟩ | ⟨h2, h3⟩
        · have he : enc (r : Int) = [UInt8.ofNat r] := by
            unfold enc encN
            rw [show rune (r : Int) = r from by unfold rune; rw [if_pos hrn]; rfl, if_pos h2]; rfl
          rw [he] at hb
          have hbb := List.mem_singleton.1 hb
          rw [hbb, of8 (by omega)]; omega
        · have := enc_big hrn h2 b hb
          omega
end
end Go.Proofs.Ytmfldffbafamnaa

/- Plain: the shape of tokens is the grammar (for seats without the program's json; chapter 25). -/
namespace Go.Proofs.Ytmfldffbafamnaa
set_option linter.unusedVariables false
set_option linter.unusedSimpArgs false
/-- What is open, the last first; how deep it was; what may come. -/
structure Sh where
  op : List Nat
  deep : Nat
  want : Nat
def mapB (op : List Nat) : Bool := match op with | [] => false | t :: _ => decide (t = 123)
def endB (op : List Nat) (c : Nat) : Bool := match op with | [] => false | t :: _ => if t = 123 then decide (c = 125) else decide (c = 93)
def stepSh (st : Sh) (c : Nat) : Option Sh :=
  if (st.want = 1 ∨ st.want = 3 ∨ st.want = 5) ∧ endB st.op c = true then some ⟨st.op.tail, st.deep, 5⟩
  else if (st.want = 0 ∨ st.want = 1) ∧ (c = 91 ∨ c = 123) then some ⟨c :: st.op, max st.deep (st.op.length + 1), if c = 123 then 3 else 1⟩
  else if (st.want = 0 ∨ st.want = 1) ∧ (c = 34 ∨ c = 48 ∨ c = 97) then some ⟨st.op, max st.deep (st.op.length + 1), 5⟩
  else if (st.want = 2 ∨ st.want = 3) ∧ c = 34 then some ⟨st.op, st.deep, 4⟩
  else if st.want = 4 ∧ c = 58 then some ⟨st.op, st.deep, 0⟩
  else if (st.want = 5 ∧ c = 44) ∧ st.op ≠ [] then some ⟨st.op, st.deep, if mapB st.op then 2 else 0⟩
  else none
def shS : Sh → List Tok → Option Sh
  | st, [] => some st
  | st, t :: ts => match stepSh st t.kind with
    | none => none
    | some st' => shS st' ts
def shapeN (ts : List Tok) : Nat := match shS ⟨[], 0, 0⟩ ts with
  | none => 0
  | some st => if st.op = [] ∧ st.want = 5 then st.deep else 0
theorem isK_get {ts : List Tok} {k c : Nat} (h : isK ts k c = true) : ∃ t, ts[k]? = some t ∧ t.kind = c := by
  have hl := isK_lt h
  refine ⟨_, List.getElem?_eq_getElem hl, ?_⟩
  rw [isK_some (List.getElem?_eq_getElem hl)] at h
  simpa using h
theorem valI_head {f : Nat} {ts : List Tok} {k k2 : Nat} {n : Node} (h : valI f ts k = some (n, k2)) : ∃ t, ts[k]? = some t ∧ (t.kind = 34 ∨ t.kind = 48 ∨ t.kind = 97 ∨ t.kind = 91 ∨ t.kind = 123) := by
  cases f with
  | zero => cases h
  | succ f =>
    rcases Nat.lt_or_ge k ts.length with hk | hk
    · refine ⟨_, List.getElem?_eq_getElem hk, ?_⟩
      rw [valI_at (List.getElem?_eq_getElem hk)] at h
      by_cases h1 : ts[k].kind = 34 ∨ ts[k].kind = 48 ∨ ts[k].kind = 97
      · omega
      · rw [if_neg h1] at h
        by_cases h2 : ts[k].kind ≠ 91 ∧ ts[k].kind ≠ 123
        · rw [if_pos h2] at h; cases h
        · omega
    · rw [valI_out hk] at h; cases h
theorem elems_head {f : Nat} {ts : List Tok} {map : Bool} {E G k : Nat} {ks : List (List UInt8)} {ns : List Node} {out : List (List UInt8) × List Node × Nat} (h : elems (fun j => valI f ts j) ts map E G k ks ns = some out) : ∃ t, ts[k]? = some t ∧ t.kind ≠ 93 ∧ t.kind ≠ 125 ∧ t.kind ≠ 44 := by
  cases G with
  | zero => cases h
  | succ G =>
    unfold elems at h
    split at h
    · cases h
    · rename_i hm
      cases map
      · split at h
        · cases h
        · rename_i n k2 hv
          obtain ⟨t, h1, h2⟩ := valI_head hv
          exact ⟨t, h1, by omega, by omega, by omega⟩
      · have h34 : isK ts k 34 = true := by
          by_cases h : isK ts k 34 = true
          · exact h
          · exact absurd ⟨rfl, fun x => h x.1⟩ hm
        obtain ⟨t, h1, h2⟩ := isK_get h34
        exact ⟨t, h1, by omega, by omega, by omega⟩
theorem shS_at {ts : List Tok} {k : Nat} {t : Tok} (ht : ts[k]? = some t) (st : Sh) : shS st (ts.drop k) = match stepSh st t.kind with
    | none => none
    | some st' => shS st' (ts.drop (k + 1)) := by
  obtain ⟨h1, h2⟩ := List.getElem?_eq_some_iff.1 ht
  rw [List.drop_eq_getElem_cons h1, h2]; rfl
theorem shS_end {ts : List Tok} {k : Nat} (h : ts.length ≤ k) (st : Sh) : shS st (ts.drop k) = some st := by
  rw [List.drop_eq_nil_of_le h]; rfl
theorem step_inv {op : List Nat} {d wt c : Nat} {st' : Sh} (h : stepSh ⟨op, d, wt⟩ c = some st') :
    ((wt = 1 ∨ wt = 3 ∨ wt = 5) ∧ endB op c = true ∧ st' = ⟨op.tail, d, 5⟩) ∨ ((wt = 0 ∨ wt = 1) ∧ (c = 91 ∨ c = 123) ∧ st' = ⟨c :: op, max d (op.length + 1), if c = 123 then 3 else 1⟩) ∨
    ((wt = 0 ∨ wt = 1) ∧ (c = 34 ∨ c = 48 ∨ c = 97) ∧ st' = ⟨op, max d (op.length + 1), 5⟩) ∨ ((wt = 2 ∨ wt = 3) ∧ c = 34 ∧ st' = ⟨op, d, 4⟩) ∨ (wt = 4 ∧ c = 58 ∧ st' = ⟨op, d, 0⟩) ∨
    (wt = 5 ∧ c = 44 ∧ op ≠ [] ∧ st' = ⟨op, d, if mapB op then 2 else 0⟩) := by
  unfold stepSh at h
  dsimp only at h
  split at h
  · rename_i h1; cases h; exact .inl ⟨h1.1, h1.2, rfl⟩
  split at h
  · rename_i h1; cases h; exact .inr (.inl ⟨h1.1, h1.2, rfl⟩)
  split at h
  · rename_i h1; cases h; exact .inr (.inr (.inl ⟨h1.1, h1.2, rfl⟩))
  split at h
  · rename_i h1; cases h; exact .inr (.inr (.inr (.inl ⟨h1.1, h1.2, rfl⟩)))
  split at h
  · rename_i h1; cases h; exact .inr (.inr (.inr (.inr (.inl ⟨h1.1, h1.2, rfl⟩))))
  split at h
  · rename_i h1; cases h; exact .inr (.inr (.inr (.inr (.inr ⟨h1.1.1, h1.1.2, h1.2, rfl⟩))))
  · cases h
theorem endB_no {op : List Nat} {c : Nat} (h1 : c ≠ 93) (h2 : c ≠ 125) : endB op c = false := by
  cases op with
  | nil => rfl
  | cons t r => unfold endB; dsimp only; split <;> simp [h1, h2]
theorem st_leaf {op : List Nat} {d wt c : Nat} (hw : wt = 0 ∨ wt = 1) (hc : c = 34 ∨ c = 48 ∨ c = 97) : stepSh ⟨op, d, wt⟩ c = some ⟨op, max d (op.length + 1), 5⟩ := by
  unfold stepSh
  dsimp only
  rw [if_neg (fun h => by rw [endB_no (by omega) (by omega)] at h; cases h.2), if_neg (by omega), if_pos ⟨hw, hc⟩]
theorem st_push {op : List Nat} {d wt c : Nat} (hw : wt = 0 ∨ wt = 1) (hc : c = 91 ∨ c = 123) : stepSh ⟨op, d, wt⟩ c = some ⟨c :: op, max d (op.length + 1), if c = 123 then 3 else 1⟩ := by
  unfold stepSh
  dsimp only
  rw [if_neg (fun h => by rw [endB_no (by omega) (by omega)] at h; cases h.2), if_pos ⟨hw, hc⟩]
theorem st_pop {op : List Nat} {d wt c : Nat} (hw : wt = 1 ∨ wt = 3 ∨ wt = 5) (hc : endB op c = true) : stepSh ⟨op, d, wt⟩ c = some ⟨op.tail, d, 5⟩ := by
  unfold stepSh
  dsimp only
  rw [if_pos ⟨hw, hc⟩]
theorem st_key {op : List Nat} {d wt : Nat} (hw : wt = 2 ∨ wt = 3) : stepSh ⟨op, d, wt⟩ 34 = some ⟨op, d, 4⟩ := by
  unfold stepSh
  dsimp only
  rw [if_neg (fun h => by rw [endB_no (by omega) (by omega)] at h; cases h.2), if_neg (by omega), if_neg (by omega), if_pos ⟨hw, rfl⟩]
theorem st_colon (op : List Nat) (d : Nat) : stepSh ⟨op, d, 4⟩ 58 = some ⟨op, d, 0⟩ := by
  unfold stepSh
  dsimp only
  rw [if_neg (by omega), if_neg (by omega), if_neg (by omega), if_neg (by omega), if_pos ⟨rfl, rfl⟩]
theorem st_more {op : List Nat} {d : Nat} (ho : op ≠ []) : stepSh ⟨op, d, 5⟩ 44 = some ⟨op, d, if mapB op then 2 else 0⟩ := by
  unfold stepSh
  dsimp only
  rw [if_neg (fun h => by rw [endB_no (by omega) (by omega)] at h; cases h.2), if_neg (by omega), if_neg (by omega), if_neg (by omega), if_neg (by omega), if_pos ⟨⟨rfl, rfl⟩, ho⟩]
def kE (map : Bool) : Nat := if map then 125 else 93
def kK (map : Bool) : Nat := if map then 123 else 91
theorem endB_K (map : Bool) (op : List Nat) (c : Nat) : endB (kK map :: op) c = decide (c = kE map) := by
  cases map <;> simp [endB, kK, kE]
theorem mapB_K (map : Bool) (op : List Nat) : mapB (kK map :: op) = map := by
  cases map <;> simp [mapB, kK]
theorem run_val {ts : List Tok} : ∀ (f k k2 : Nat) (n : Node) (op : List Nat) (d wt : Nat), valI f ts k = some (n, k2) → wt = 0 ∨ wt = 1 → shS ⟨op, d, wt⟩ (ts.drop k) = shS ⟨op, max d (op.length + deepN n), 5⟩ (ts.drop k2)
  | 0, k, k2, n, op, d, wt, h, hw => by cases h
  | f + 1, k, k2, n, op, d, wt, h, hw => by
    have run_elems : ∀ (map : Bool) (G m : Nat) (ks : List (List UInt8)) (ns : List Node) (ks' : List (List UInt8)) (ns' : List Node) (ke : Nat) (op : List Nat) (d wt : Nat), elems (fun j => valI f ts j) ts map (kE map) G m ks ns = some (ks', ns', ke) →
        (if map then wt = 2 ∨ wt = 3 else wt = 0 ∨ wt = 1) → ∃ news, ns' = ns ++ news ∧ shS ⟨kK map :: op, d, wt⟩ (ts.drop m) = shS ⟨op, max d (op.length + 1 + deepL news), 5⟩ (ts.drop ke) := by
      intro map G
      induction G with
      | zero => intro m ks ns ks' ns' ke op d wt h; cases h
      | succ G ih =>
        intro m ks ns ks' ns' ke op d wt h hwt
        unfold elems at h
        by_cases hm : map = true ∧ ¬ (isK ts m 34 = true ∧ isK ts (m + 1) 58 = true)
        · rw [if_pos hm] at h; cases h
        rw [if_neg hm] at h
        obtain ⟨p, hp⟩ : ∃ p, (if map then m + 2 else m) = p := ⟨_, rfl⟩
        rw [hp] at h
        have hstart : ∃ wt2, (wt2 = 0 ∨ wt2 = 1) ∧ shS ⟨kK map :: op, d, wt⟩ (ts.drop m) = shS ⟨kK map :: op, d, wt2⟩ (ts.drop p) := by
          cases map
          · exact ⟨wt, hwt, by rw [← hp]; rfl⟩
          · have h2 : isK ts m 34 = true ∧ isK ts (m + 1) 58 = true := by
              by_cases h2 : isK ts m 34 = true ∧ isK ts (m + 1) 58 = true
              · exact h2
              · exact absurd ⟨rfl, h2⟩ hm
            obtain ⟨t1, e1, q1⟩ := isK_get h2.1
            obtain ⟨t2, e2, q2⟩ := isK_get h2.2
            refine ⟨0, .inl rfl, ?_⟩
            have hwt' : wt = 2 ∨ wt = 3 := hwt
            rw [shS_at e1, q1, st_key hwt']
            dsimp only
            rw [shS_at e2, q2, st_colon, ← hp]
            rfl
        obtain ⟨wt2, hwt2, hs⟩ := hstart
        cases hv : valI f ts p with
        | none => rw [hv] at h; cases h
        | some r =>
          obtain ⟨n1, k3⟩ := r
          rw [hv] at h
          dsimp only at h
          have hr := run_val f p k3 n1 (kK map :: op) d wt2 hv hwt2
          rw [hs, hr]
          by_cases h1 : isK ts k3 (kE map) = true
          · rw [if_pos h1] at h
            simp only [Option.some.injEq, Prod.mk.injEq] at h
            obtain ⟨_, rfl, rfl⟩ := h
            obtain ⟨t1, e1, q1⟩ := isK_get h1
            refine ⟨[n1], rfl, ?_⟩
            rw [shS_at e1, q1, st_pop (by omega) (by rw [endB_K]; simp)]
            simp only [List.length_cons, List.tail_cons, deepL]
            rw [Nat.max_zero]
          · rw [if_neg h1] at h
            by_cases h2 : isK ts k3 44 = true
            · rw [if_pos h2] at h
              obtain ⟨t1, e1, q1⟩ := isK_get h2
              obtain ⟨news, rfl, hn⟩ := ih _ _ _ _ _ _ op (max d ((kK map :: op).length + deepN n1)) (if map then 2 else 0) h (by cases map <;> simp)
              refine ⟨n1 :: news, by simp, ?_⟩
              rw [shS_at e1, q1, st_more (by simp), mapB_K]
              dsimp only
              rw [hn]
              congr 2
              simp only [List.length_cons, deepL]
              omega
            · rw [if_neg h2] at h; cases h
    rcases Nat.lt_or_ge k ts.length with hk | hk
    · have ht : ts[k]? = some ts[k] := List.getElem?_eq_getElem hk
      rw [valI_at ht] at h
      generalize ts[k] = t at *
      rw [shS_at ht]
      by_cases h1 : t.kind = 34 ∨ t.kind = 48 ∨ t.kind = 97
      · rw [if_pos h1] at h
        cases h
        rw [st_leaf hw h1]
        rfl
      rw [if_neg h1] at h
      by_cases h2 : t.kind ≠ 91 ∧ t.kind ≠ 123
      · rw [if_pos h2] at h; cases h
      rw [if_neg h2, ] at h
      obtain ⟨map, hmap⟩ : ∃ map, decide (t.kind = 123) = map := ⟨_, rfl⟩
      have hK : t.kind = kK map := by
        cases map
        · have : t.kind ≠ 123 := by simpa using hmap
          simp [kK]; omega
        · simpa [kK] using hmap
      have hE : (if t.kind = 123 then 125 else 93) = kE map := by
        cases map
        · have : t.kind ≠ 123 := by simpa using hmap
          rw [if_neg this]; rfl
        · have : t.kind = 123 := by simpa using hmap
          rw [if_pos this]; rfl
      rw [hE, hmap] at h
      rw [st_push hw (by omega)]
      dsimp only
      rw [hK]
      by_cases h3 : isK ts (k + 1) (kE map) = true
      · rw [if_pos h3] at h
        cases h
        obtain ⟨t1, e1, q1⟩ := isK_get h3
        rw [shS_at e1, q1, st_pop (by cases map <;> simp [kK]) (by rw [endB_K]; simp)]
        rfl
      · rw [if_neg h3] at h
        cases he : elems (fun j => valI f ts j) ts map (kE map) ts.length (k + 1) [] [] with
        | none => rw [he] at h; cases h
        | some out =>
          obtain ⟨ks', ns', ke⟩ := out
          rw [he] at h
          cases h
          obtain ⟨news, hn, hr⟩ := run_elems map _ _ _ _ _ _ _ op (max d (op.length + 1)) (if kK map = 123 then 3 else 1) he (by cases map <;> simp [kK])
          rw [hr]
          rw [List.nil_append] at hn
          subst hn
          congr 2
          simp only [deepN]
          omega
    · rw [valI_out hk] at h; cases h
def A1 (ts : List Tok) (k : Nat) : Prop := ∀ (f : Nat) (op : List Nat) (d wt : Nat) (st' : Sh), ts.length < f + k → (wt = 0 ∨ (wt = 1 ∧ ∀ t, ts[k]? = some t → endB op t.kind = false)) → shS ⟨op, d, wt⟩ (ts.drop k) = some st' → st'.op = [] → st'.want = 5 →
  ∃ n k2, valI f ts k = some (n, k2)
def A2 (ts : List Tok) (k : Nat) : Prop := ∀ (f G : Nat) (map : Bool) (op : List Nat) (d wt : Nat) (ks : List (List UInt8)) (ns : List Node) (st' : Sh), ts.length < f + k → ts.length < G + k →
  (wt = (if map then 2 else 0) ∨ (wt = (if map then 3 else 1) ∧ ∀ t, ts[k]? = some t → endB (kK map :: op) t.kind = false)) → shS ⟨kK map :: op, d, wt⟩ (ts.drop k) = some st' → st'.op = [] → st'.want = 5 →
  ∃ out, elems (fun j => valI f ts j) ts map (kE map) G k ks ns = some out
theorem acc_1 {ts : List Tok} {k : Nat} (h2 : ∀ k', k < k' → A2 ts k') : A1 ts k := by
  intro f op d wt st' hf hw h ho h5
  rcases Nat.lt_or_ge k ts.length with hk | hk
  · have ht : ts[k]? = some ts[k] := List.getElem?_eq_getElem hk
    generalize ts[k] = t at *
    rw [shS_at ht] at h
    cases hs : stepSh ⟨op, d, wt⟩ t.kind with
    | none => rw [hs] at h; cases h
    | some st1 =>
      rw [hs] at h
      dsimp only at h
      obtain ⟨f, rfl⟩ : ∃ f', f = f' + 1 := ⟨f - 1, by omega⟩
      rw [valI_at ht]
      rcases step_inv hs with ⟨q1, q2, rfl⟩ | ⟨q1, q2, rfl⟩ | ⟨q1, q2, rfl⟩ | ⟨q1, q2, rfl⟩ | ⟨q1, q2, rfl⟩ | ⟨q1, q2, q3, rfl⟩
      · exfalso
        rcases hw with rfl | ⟨rfl, hw⟩
        · omega
        · rw [hw t ht] at q2; cases q2
      · rw [if_neg (by omega), if_neg (by omega)]
        obtain ⟨map, hmap⟩ : ∃ map, decide (t.kind = 123) = map := ⟨_, rfl⟩
        have hK : t.kind = kK map := by
          cases map
          · have : t.kind ≠ 123 := by simpa using hmap
            simp [kK]; omega
          · simpa [kK] using hmap
        have hE : (if t.kind = 123 then 125 else 93) = kE map := by
          cases map
          · have : t.kind ≠ 123 := by simpa using hmap
            rw [if_neg this]; rfl
          · have : t.kind = 123 := by simpa using hmap
            rw [if_pos this]; rfl
        have hW : (if t.kind = 123 then 3 else 1) = (if map then 3 else 1) := by
          cases map
          · have : t.kind ≠ 123 := by simpa using hmap
            rw [if_neg this]; rfl
          · have : t.kind = 123 := by simpa using hmap
            rw [if_pos this]; rfl
        rw [hE, hmap]
        by_cases h3 : isK ts (k + 1) (kE map) = true
        · rw [if_pos h3]; exact ⟨_, _, rfl⟩
        · rw [if_neg h3]
          rw [hK] at h
          rw [hK] at hW
          rw [hW] at h
          obtain ⟨out, he⟩ := h2 (k + 1) (by omega) f ts.length map op (max d (op.length + 1)) (if map then 3 else 1) [] [] st' (by omega) (by omega) (.inr ⟨rfl, fun t1 e1 => by
            rw [endB_K]
            rw [isK_some e1] at h3
            simpa using h3⟩) h ho h5
          rw [he]
          exact ⟨_, _, rfl⟩
      · rw [if_pos q2]; exact ⟨_, _, rfl⟩
      · exfalso; omega
      · exfalso; omega
      · exfalso; omega
  · exfalso
    rw [shS_end hk] at h
    cases h
    dsimp only at h5
    omega
theorem acc_2 {ts : List Tok} {k : Nat} (h1 : ∀ k', k ≤ k' → A1 ts k') (h2 : ∀ k', k < k' → A2 ts k') : A2 ts k := by
  intro f G map op d wt ks ns st' hf hG hw h ho h5
  rcases Nat.lt_or_ge k ts.length with hk | hk
  · rw [elems_step (fun k hk => valI_out hk) G k ks ns hG]
    obtain ⟨p, hp⟩ : ∃ p, (if map then k + 2 else k) = p := ⟨_, rfl⟩
    rw [hp]
    have hkp : k ≤ p := by cases map <;> simp at hp <;> omega
    have hstart : (map = true → isK ts k 34 = true ∧ isK ts (k + 1) 58 = true) ∧ ∃ wt2, (wt2 = 0 ∨ (wt2 = 1 ∧ ∀ t, ts[p]? = some t → endB (kK map :: op) t.kind = false)) ∧ shS ⟨kK map :: op, d, wt2⟩ (ts.drop p) = some st' := by
      cases map
      · refine ⟨fun h => (by cases h), wt, ?_, ?_⟩
        · have hp2 : k = p := hp
          rw [← hp2]; exact hw
        · have hp2 : k = p := hp
          rw [← hp2]; exact h
      · have ht : ts[k]? = some ts[k] := List.getElem?_eq_getElem hk
        generalize ts[k] = t at *
        rw [shS_at ht] at h
        cases hs : stepSh ⟨kK true :: op, d, wt⟩ t.kind with
        | none => rw [hs] at h; cases h
        | some st1 =>
          rw [hs] at h
          dsimp only at h
          have hw' : wt = 2 ∨ (wt = 3 ∧ ∀ t, ts[k]? = some t → endB (kK true :: op) t.kind = false) := hw
          have h34 : t.kind = 34 ∧ st1 = ⟨kK true :: op, d, 4⟩ := by
            rcases step_inv hs with ⟨q1, q2, rfl⟩ | ⟨q1, q2, rfl⟩ | ⟨q1, q2, rfl⟩ | ⟨q1, q2, rfl⟩ | ⟨q1, q2, rfl⟩ | ⟨q1, q2, q3, rfl⟩
            · exfalso
              rcases hw' with rfl | ⟨rfl, hw'⟩
              · omega
              · rw [hw' t ht] at q2; cases q2
            · exfalso; omega
            · exfalso; omega
            · exact ⟨q2, rfl⟩
            · exfalso; omega
            · exfalso; omega
          obtain ⟨h34, rfl⟩ := h34
          rcases Nat.lt_or_ge (k + 1) ts.length with hk1 | hk1
          · have ht1 : ts[k + 1]? = some ts[k + 1] := List.getElem?_eq_getElem hk1
            generalize ts[k + 1] = t1 at *
            rw [shS_at ht1] at h
            cases hs1 : stepSh ⟨kK true :: op, d, 4⟩ t1.kind with
            | none => rw [hs1] at h; cases h
            | some st2 =>
              rw [hs1] at h
              dsimp only at h
              rcases step_inv hs1 with ⟨q1, q2, rfl⟩ | ⟨q1, q2, rfl⟩ | ⟨q1, q2, rfl⟩ | ⟨q1, q2, rfl⟩ | ⟨q1, q2, rfl⟩ | ⟨q1, q2, q3, rfl⟩
              · exfalso; omega
              · exfalso; omega
              · exfalso; omega
              · exfalso; omega
              · refine ⟨fun _ => ⟨by rw [isK_some ht]; simp [h34], by rw [isK_some ht1]; simp [q2]⟩, 0, .inl rfl, ?_⟩
                have hp2 : k + 2 = p := hp
                rw [← hp2]; exact h
              · exfalso; omega
          · exfalso
            rw [shS_end hk1] at h
            cases h
            cases ho
    obtain ⟨hkey, wt2, hw2, h⟩ := hstart
    rw [if_neg (fun x => x.2 (hkey x.1))]
    obtain ⟨n, k3, hv⟩ := h1 p hkp f _ d wt2 st' (by omega) hw2 h ho h5
    have hb := valI_bd _ _ _ _ _ hv
    rw [run_val f p k3 n _ d wt2 hv (by omega)] at h
    rw [hv]
    dsimp only
    rcases Nat.lt_or_ge k3 ts.length with hk3 | hk3
    · have ht : ts[k3]? = some ts[k3] := List.getElem?_eq_getElem hk3
      generalize ts[k3] = t at *
      rw [shS_at ht] at h
      cases hs : stepSh ⟨kK map :: op, max d ((kK map :: op).length + deepN n), 5⟩ t.kind with
      | none => rw [hs] at h; cases h
      | some st1 =>
        rw [hs] at h
        dsimp only at h
        rcases step_inv hs with ⟨q1, q2, rfl⟩ | ⟨q1, q2, rfl⟩ | ⟨q1, q2, rfl⟩ | ⟨q1, q2, rfl⟩ | ⟨q1, q2, rfl⟩ | ⟨q1, q2, q3, rfl⟩
        · rw [endB_K] at q2
          rw [if_pos (by rw [isK_some ht]; exact q2)]
          exact ⟨_, rfl⟩
        · exfalso; omega
        · exfalso; omega
        · exfalso; omega
        · exfalso; omega
        · by_cases hE : isK ts k3 (kE map) = true
          · rw [if_pos hE]; exact ⟨_, rfl⟩
          · rw [if_neg hE, if_pos (by rw [isK_some ht]; simp [q2])]
            rw [mapB_K] at h
            exact h2 (k3 + 1) (by omega) f (G - 1) map op _ _ _ _ st' (by omega) (by omega) (.inl rfl) h ho h5
    · exfalso
      rw [shS_end hk3] at h
      cases h
      cases ho
  · exfalso
    rw [shS_end hk] at h
    cases h
    cases ho
theorem acc_all (ts : List Tok) : ∀ (L k : Nat), ts.length ≤ k + L → A1 ts k ∧ A2 ts k
  | 0, k, h => by
    constructor
    · intro f op d wt st' hf hw hh ho h5
      exfalso
      rw [shS_end (by omega)] at hh
      cases hh
      dsimp only at h5
      omega
    · intro f G map op d wt ks ns st' hf hG hw hh ho h5
      exfalso
      rw [shS_end (by omega)] at hh
      cases hh
      cases ho
  | L + 1, k, h => by
    have hx : ∀ k', k < k' → A1 ts k' ∧ A2 ts k' := fun k' hk' => acc_all ts L k' (by omega)
    have a1 : A1 ts k := acc_1 fun k' hk' => (hx k' hk').2
    refine ⟨a1, acc_2 (fun k' hk' => ?_) fun k' hk' => (hx k' hk').2⟩
    rcases Nat.lt_or_ge k k' with h1 | h1
    · exact (hx k' h1).1
    · obtain rfl : k = k' := by omega
      exact a1
theorem deepN_pos (n : Node) : 0 < deepN n := by cases n; simp [deepN]
/-- The shape is how deep the value is; 0: there is none. -/
theorem shape_val (ts : List Tok) : shapeN ts = match val ts with
    | none => 0
    | some (n, k) => if k = ts.length then deepN n else 0 := by
  have h0 : ts.drop 0 = ts := rfl
  cases hv : val ts with
  | some r =>
    obtain ⟨n, k⟩ := r
    dsimp only
    have hb := valI_bd _ _ _ _ _ hv
    have hr := run_val _ 0 k n [] 0 0 hv (.inl rfl)
    rw [h0] at hr
    unfold shapeN
    rw [hr]
    by_cases hk : k = ts.length
    · rw [if_pos hk, shS_end (by omega)]
      dsimp only
      rw [if_pos ⟨rfl, rfl⟩]
      simp
    · rw [if_neg hk]
      have ht : ts[k]? = some ts[k] := List.getElem?_eq_getElem (by omega)
      rw [shS_at ht]
      cases hs : stepSh ⟨[], max 0 (([] : List Nat).length + deepN n), 5⟩ ts[k].kind with
      | none => rfl
      | some st1 =>
        exfalso
        rcases step_inv hs with ⟨q1, q2, rfl⟩ | ⟨q1, q2, rfl⟩ | ⟨q1, q2, rfl⟩ | ⟨q1, q2, rfl⟩ | ⟨q1, q2, rfl⟩ | ⟨q1, q2, q3, rfl⟩
        · cases q2
        · omega
        · omega
        · omega
        · omega
        · exact q3 rfl
  | none =>
    dsimp only
    unfold shapeN
    cases hs : shS ⟨[], 0, 0⟩ ts with
    | none => rfl
    | some st =>
      dsimp only
      by_cases h : st.op = [] ∧ st.want = 5
      · exfalso
        obtain ⟨n, k2, h1⟩ := (acc_all ts ts.length 0 (by omega)).1 (ts.length + 1) [] 0 0 st (by omega) (.inl rfl) hs h.1 h.2
        have h2 : val ts = some (n, k2) := h1
        rw [hv] at h2; cases h2
      · rw [if_neg h]
end Go.Proofs.Ytmfldffbafamnaa

/- Plain: the automaton's steps over whole tokens are the shape's (chapter 25). -/
namespace Go.Proofs.Ytmfldffbafamnaa
set_option linter.unusedVariables false
set_option linter.unusedSimpArgs false
def shM : Sh → List Nat → Option Sh
  | st, [] => some st
  | st, k :: ks => match stepSh st k with
    | none => none
    | some st' => shM st' ks
theorem shS_shM : ∀ (ts : List Tok) (st : Sh), shS st ts = shM st (ts.map Tok.kind)
  | [], st => rfl
  | t :: ts, st => by
    rw [List.map_cons, shS, shM]
    cases stepSh st t.kind with
    | none => rfl
    | some st' => exact shS_shM ts st'
theorem shM_deep : ∀ (ks : List Nat) (st st' : Sh), shM st ks = some st' → st.deep ≤ st'.deep
  | [], st, st', h => by cases h; exact Nat.le_refl _
  | k :: ks, ⟨op, d, wt⟩, st', h => by
    rw [shM] at h
    cases hs : stepSh ⟨op, d, wt⟩ k with
    | none => rw [hs] at h; cases h
    | some st1 =>
      rw [hs] at h
      have h2 := shM_deep ks st1 st' h
      have h3 : d ≤ st1.deep := by
        rcases step_inv hs with ⟨_, _, rfl⟩ | ⟨_, _, rfl⟩ | ⟨_, _, rfl⟩ | ⟨_, _, rfl⟩ | ⟨_, _, rfl⟩ | ⟨_, _, _, rfl⟩ <;> simp <;> omega
      exact Nat.le_trans h3 h2
/-- Is this an end that may be? -/
def okS (o : Option Sh) : Bool := match o with
  | none => false
  | some st => decide (st.op = [] ∧ st.want = 5 ∧ st.deep ≤ 32)
theorem okS_none : okS none = false := rfl
theorem deep_hi {st : Sh} (h : 32 < st.deep) (ks : List Nat) : okS (shM st ks) = false := by
  cases hs : shM st ks with
  | none => rfl
  | some st' =>
    have := shM_deep _ _ _ hs
    unfold okS
    exact decide_eq_false (fun x => by omega)
theorem deep_4 {op : List Nat} {d : Nat} (h : 32 ≤ op.length) : ∀ ks, okS (shM ⟨op, d, 4⟩ ks) = false
  | [] => by unfold shM okS; simp
  | k :: ks => by
    rw [shM]
    cases hs : stepSh ⟨op, d, 4⟩ k with
    | none => rfl
    | some st1 =>
      rcases step_inv hs with ⟨q, _, _⟩ | ⟨q, _, _⟩ | ⟨q, _, _⟩ | ⟨q, _, _⟩ | ⟨_, _, rfl⟩ | ⟨q, _, _, _⟩
      · omega
      · omega
      · omega
      · omega
      · dsimp only
        cases ks with
        | nil => unfold shM okS; simp
        | cons k2 ks =>
          rw [shM]
          cases hs2 : stepSh ⟨op, d, 0⟩ k2 with
          | none => rfl
          | some st2 =>
            rcases step_inv hs2 with ⟨q, _, _⟩ | ⟨_, _, rfl⟩ | ⟨_, _, rfl⟩ | ⟨q, _, _⟩ | ⟨q, _, _⟩ | ⟨q, _, _, _⟩
            · omega
            · exact deep_hi (by simp; omega) ks
            · exact deep_hi (by simp; omega) ks
            · omega
            · omega
            · omega
      · omega
/-- The automaton's step over a whole token of a kind. -/
def stepA (m : Nat) (o : List UInt8) (k : Nat) : Option (Nat × List UInt8) :=
  if k = 93 then (if inB o = 91 ∧ (m = 1 ∨ m = 5) then some (5, o.take (o.length - 1)) else none)
  else if k = 125 then (if inB o = 123 ∧ (m = 2 ∨ m = 5) then some (5, o.take (o.length - 1)) else none)
  else if k = 44 then (if m = 5 ∧ o ≠ [] then some (if inB o = 123 then 3 else 0, o) else none)
  else if k = 58 then (if m = 4 then some (0, o) else none)
  else if k = 34 ∧ (m = 2 ∨ m = 3) then (if o.length < 32 then some (4, o) else none)
  else if ¬ (m = 0 ∨ m = 1) ∨ 32 ≤ o.length then none
  else if k = 91 then some (1, o ++ [91])
  else if k = 123 then some (2, o ++ [123])
  else some (5, o)
def accK : Nat → List UInt8 → List Nat → Bool
  | m, o, [] => decide (m = 5 ∧ o = [])
  | m, o, k :: ks => match stepA m o k with
    | none => false
    | some p => accK p.1 p.2 ks
def mu (m : Nat) : Nat := if m = 2 then 3 else if m = 3 then 2 else m
def opR (o : List UInt8) : List Nat := (o.map UInt8.toNat).reverse
structure InvA (m : Nat) (o : List UInt8) : Prop where
  m5 : m ≤ 5
  len : o.length ≤ 32
  br : ∀ b ∈ o, b = 91 ∨ b = 123
  row : m = 1 → inB o = 91
  map : m = 2 ∨ m = 3 ∨ m = 4 → inB o = 123
def isKd (k : Nat) : Prop := k = 34 ∨ k = 48 ∨ k = 97 ∨ k = 91 ∨ k = 93 ∨ k = 123 ∨ k = 125 ∨ k = 44 ∨ k = 58
theorem opR_len (o : List UInt8) : (opR o).length = o.length := by simp [opR]
theorem opR_snoc (x : List UInt8) (b : UInt8) : opR (x ++ [b]) = b.toNat :: opR x := by simp [opR]
theorem inB_snoc (x : List UInt8) (b : UInt8) : inB (x ++ [b]) = b.toNat := by
  unfold inB
  rw [if_neg (by simp)]
  have := bt_right' x b
  simpa using this
where
  bt_right' (x : List UInt8) (b : UInt8) : bt (x ++ [b]) x.length = b.toNat := by simp [bt, List.getD_eq_getElem?_getD]
theorem take_snoc (x : List UInt8) (b : UInt8) : (x ++ [b]).take ((x ++ [b]).length - 1) = x := by simp
theorem mu_5 {m : Nat} (h : m ≤ 5) : mu m = 5 ↔ m = 5 := by unfold mu; split; omega; split <;> omega
theorem stepA_no {m k : Nat} {o : List UInt8} (h : stepA m o k = none) (ks : List Nat) : accK m o (k :: ks) = false := by rw [accK, h]
theorem stepA_go {m k : Nat} {o : List UInt8} {p : Nat × List UInt8} (h : stepA m o k = some p) (ks : List Nat) : accK m o (k :: ks) = accK p.1 p.2 ks := by rw [accK, h]
theorem sh_no {st : Sh} {k : Nat} (h : stepSh st k = none) (ks : List Nat) : okS (shM st (k :: ks)) = false := by rw [shM, h]; rfl
theorem sh_go {st st' : Sh} {k : Nat} (h : stepSh st k = some st') (ks : List Nat) : shM st (k :: ks) = shM st' ks := by rw [shM, h]
theorem sh_none {op : List Nat} {d wt k : Nat} (h1 : ¬ ((wt = 1 ∨ wt = 3 ∨ wt = 5) ∧ endB op k = true)) (h2 : ¬ ((wt = 0 ∨ wt = 1) ∧ (k = 91 ∨ k = 123))) (h3 : ¬ ((wt = 0 ∨ wt = 1) ∧ (k = 34 ∨ k = 48 ∨ k = 97))) (h4 : ¬ ((wt = 2 ∨ wt = 3) ∧ k = 34)) (h5 : ¬ (wt = 4 ∧ k = 58)) (h6 : ¬ ((wt = 5 ∧ k = 44) ∧ op ≠ [])) : stepSh ⟨op, d, wt⟩ k = none := by
  unfold stepSh
  dsimp only
  rw [if_neg h1, if_neg h2, if_neg h3, if_neg h4, if_neg h5, if_neg h6]
theorem accK_sh : ∀ (ks : List Nat) (m : Nat) (o : List UInt8) (d : Nat), (∀ k ∈ ks, isKd k) → InvA m o → d ≤ 32 → accK m o ks = okS (shM ⟨opR o, d, mu m⟩ ks)
  | [], m, o, d, _, hI, hd => by
    unfold accK shM okS
    dsimp only
    have h1 := mu_5 hI.m5
    have h2 : opR o = [] ↔ o = [] := by unfold opR; simp
    exact decide_eq_decide.2 ⟨fun h => ⟨h2.2 h.2, h1.2 h.1, hd⟩, fun h => ⟨h1.1 h.2.1, h2.1 h.1⟩⟩
  | k :: ks, m, o, d, hk, hI, hd => by
    have hkk := hk k (by simp)
    have hks : ∀ x ∈ ks, isKd x := fun x hx => hk x (by simp [hx])
    have m5 := hI.m5
    have hlen := hI.len
    have hmu : (m = 2 ∧ mu m = 3) ∨ (m = 3 ∧ mu m = 2) ∨ (m ≠ 2 ∧ m ≠ 3 ∧ mu m = m) := by unfold mu; split; omega; split <;> omega
    have hol := opR_len o
    by_cases k93 : k = 93
    · subst k93
      rcases List.eq_nil_or_concat o with rfl | ⟨x, b, hx⟩
      · rw [stepA_no (by unfold stepA; rw [if_pos rfl, if_neg (by unfold inB; simp)]), sh_no (sh_none (by simp [opR, endB]) (by omega) (by omega) (by omega) (by omega) (by omega))]
      · rw [List.concat_eq_append] at hx
        subst hx
        have hb := hI.br b (by simp)
        have hin := inB_snoc x b
        rcases hb with rfl | rfl
        · have hr : m ≠ 2 ∧ m ≠ 3 ∧ m ≠ 4 := by
            have := hI.map
            rw [hin] at this
            refine ⟨fun e => ?_, fun e => ?_, fun e => ?_⟩ <;> exact absurd (this (by omega)) (by decide)
          have he : endB (opR (x ++ [91])) 93 = true := by rw [opR_snoc]; rfl
          by_cases hm : m = 1 ∨ m = 5
          · rw [stepA_go (by unfold stepA; rw [if_pos rfl, if_pos ⟨hin, hm⟩, take_snoc])]
            rw [sh_go (st' := ⟨opR x, d, 5⟩) (by rw [st_pop (by omega) he, opR_snoc]; rfl)]
            exact accK_sh ks 5 x d hks ⟨by omega, by simp at hlen; omega, fun b hb => hI.br b (by simp [hb]), by omega, by omega⟩ hd
          · rw [stepA_no (by unfold stepA; rw [if_pos rfl, if_neg (fun y => hm y.2)]), sh_no (sh_none (by omega) (by omega) (by omega) (by omega) (by omega) (by omega))]
        · rw [stepA_no (by unfold stepA; rw [if_pos rfl, if_neg (fun y => by rw [hin] at y; exact absurd y.1 (by decide))]), sh_no (sh_none (fun y => by have := y.2; rw [opR_snoc] at this; exact absurd this (by simp [endB])) (by omega) (by omega) (by omega) (by omega) (by omega))]
    by_cases k125 : k = 125
    · subst k125
      rcases List.eq_nil_or_concat o with rfl | ⟨x, b, hx⟩
      · rw [stepA_no (by unfold stepA; rw [if_neg (by decide), if_pos rfl, if_neg (by unfold inB; simp)]), sh_no (sh_none (by simp [opR, endB]) (by omega) (by omega) (by omega) (by omega) (by omega))]
      · rw [List.concat_eq_append] at hx
        subst hx
        have hb := hI.br b (by simp)
        have hin := inB_snoc x b
        rcases hb with rfl | rfl
        · rw [stepA_no (by unfold stepA; rw [if_neg (by decide), if_pos rfl, if_neg (fun y => by rw [hin] at y; exact absurd y.1 (by decide))]), sh_no (sh_none (fun y => by have := y.2; rw [opR_snoc] at this; exact absurd this (by simp [endB])) (by omega) (by omega) (by omega) (by omega) (by omega))]
        · have hr : m ≠ 1 := fun e => by have := hI.row e; rw [hin] at this; exact absurd this (by decide)
          have he : endB (opR (x ++ [123])) 125 = true := by rw [opR_snoc]; rfl
          by_cases hm : m = 2 ∨ m = 5
          · rw [stepA_go (by unfold stepA; rw [if_neg (by decide), if_pos rfl, if_pos ⟨hin, hm⟩, take_snoc])]
            rw [sh_go (st' := ⟨opR x, d, 5⟩) (by rw [st_pop (by omega) he, opR_snoc]; rfl)]
            exact accK_sh ks 5 x d hks ⟨by omega, by simp at hlen; omega, fun b hb => hI.br b (by simp [hb]), by omega, by omega⟩ hd
          · rw [stepA_no (by unfold stepA; rw [if_neg (by decide), if_pos rfl, if_neg (fun y => hm y.2)]), sh_no (sh_none (by omega) (by omega) (by omega) (by omega) (by omega) (by omega))]
    have hend : endB (opR o) k = false := endB_no k93 k125
    have hend' : ∀ w : Prop, ¬ (w ∧ endB (opR o) k = true) := fun w y => by rw [hend] at y; exact absurd y.2 (by decide)
    by_cases k44 : k = 44
    · subst k44
      by_cases hm : m = 5 ∧ o ≠ []
      · have hop : opR o ≠ [] := fun e => hm.2 (by unfold opR at e; simpa using e)
        have hmap : mapB (opR o) = decide (inB o = 123) := by
          rcases List.eq_nil_or_concat o with rfl | ⟨x, b, hx⟩
          · exact absurd rfl hm.2
          · rw [List.concat_eq_append] at hx
            subst hx
            rw [opR_snoc, inB_snoc]; rfl
        rw [stepA_go (by unfold stepA; rw [if_neg (by decide), if_neg (by decide), if_pos rfl, if_pos hm])]
        have hmm : mu m = 5 := by omega
        rw [hmm, sh_go (st_more hop)]
        by_cases h123 : inB o = 123
        · rw [hmap, decide_eq_true h123, if_pos h123, if_pos rfl]
          exact accK_sh ks 3 o d hks ⟨by omega, hlen, hI.br, by omega, fun _ => h123⟩ hd
        · rw [hmap, decide_eq_false h123, if_neg h123, if_neg (by decide)]
          exact accK_sh ks 0 o d hks ⟨by omega, hlen, hI.br, by omega, by omega⟩ hd
      · rw [stepA_no (by unfold stepA; rw [if_neg (by decide), if_neg (by decide), if_pos rfl, if_neg hm]), sh_no (sh_none (hend' _) (by omega) (by omega) (by omega) (by omega) (fun y => hm ⟨by omega, fun e => y.2 (by rw [e]; rfl)⟩))]
    by_cases k58 : k = 58
    · subst k58
      by_cases hm : m = 4
      · rw [stepA_go (by unfold stepA; rw [if_neg (by decide), if_neg (by decide), if_neg (by decide), if_pos rfl, if_pos hm])]
        have hmm : mu m = 4 := by omega
        rw [hmm, sh_go (st_colon _ _)]
        exact accK_sh ks 0 o d hks ⟨by omega, hlen, hI.br, by omega, by omega⟩ hd
      · rw [stepA_no (by unfold stepA; rw [if_neg (by decide), if_neg (by decide), if_neg (by decide), if_pos rfl, if_neg hm]), sh_no (sh_none (hend' _) (by omega) (by omega) (by omega) (by omega) (by omega))]
    have hsA : stepA m o k = if k = 34 ∧ (m = 2 ∨ m = 3) then (if o.length < 32 then some (4, o) else none) else if ¬ (m = 0 ∨ m = 1) ∨ 32 ≤ o.length then none else if k = 91 then some (1, o ++ [91]) else if k = 123 then some (2, o ++ [123]) else some (5, o) := by
      unfold stepA; rw [if_neg k93, if_neg k125, if_neg k44, if_neg k58]
    by_cases hkey : k = 34 ∧ (m = 2 ∨ m = 3)
    · obtain ⟨rfl, hm⟩ := hkey
      have hin := hI.map (by omega)
      rw [sh_go (st_key (by omega))]
      by_cases hl : o.length < 32
      · rw [stepA_go (by rw [hsA, if_pos ⟨rfl, hm⟩, if_pos hl])]
        exact accK_sh ks 4 o d hks ⟨by omega, hlen, hI.br, by omega, fun _ => hin⟩ hd
      · rw [stepA_no (by rw [hsA, if_pos ⟨rfl, hm⟩, if_neg hl]), deep_4 (by omega)]
    rw [if_neg hkey] at hsA
    by_cases hv : m = 0 ∨ m = 1
    · have hwt : mu m = 0 ∨ mu m = 1 := by omega
      by_cases hl : o.length < 32
      · rw [if_neg (by omega)] at hsA
        by_cases k91 : k = 91
        · subst k91
          rw [if_pos rfl] at hsA
          rw [stepA_go hsA, sh_go (st_push hwt (.inl rfl)), if_neg (by decide)]
          have := accK_sh ks 1 (o ++ [91]) (max d ((opR o).length + 1)) hks ⟨by omega, by simp; omega, fun b hb => by
            rcases List.mem_append.1 hb with h | h
            · exact hI.br b h
            · exact .inl (List.mem_singleton.1 h), fun _ => inB_snoc o 91, by omega⟩ (by omega)
          rw [opR_snoc] at this
          exact this
        rw [if_neg k91] at hsA
        by_cases k123 : k = 123
        · subst k123
          rw [if_pos rfl] at hsA
          rw [stepA_go hsA, sh_go (st_push hwt (.inr rfl)), if_pos rfl]
          have := accK_sh ks 2 (o ++ [123]) (max d ((opR o).length + 1)) hks ⟨by omega, by simp; omega, fun b hb => by
            rcases List.mem_append.1 hb with h | h
            · exact hI.br b h
            · exact .inr (List.mem_singleton.1 h), by omega, fun _ => inB_snoc o 123⟩ (by omega)
          rw [opR_snoc] at this
          exact this
        rw [if_neg k123] at hsA
        rw [stepA_go hsA, sh_go (st_leaf hwt (by unfold isKd at hkk; omega))]
        exact accK_sh ks 5 o _ hks ⟨by omega, hlen, hI.br, by omega, by omega⟩ (by omega)
      · rw [if_pos (.inr (by omega))] at hsA
        rw [stepA_no hsA]
        by_cases kb : k = 91 ∨ k = 123
        · rw [sh_go (st_push hwt kb), deep_hi (by simp; omega)]
        · rw [sh_go (st_leaf hwt (by unfold isKd at hkk; omega)), deep_hi (by simp; omega)]
    · rw [if_pos (.inl hv)] at hsA
      rw [stepA_no hsA, sh_no (sh_none (hend' _) (by omega) (by omega) (fun y => hkey ⟨y.2, by omega⟩) (by omega) (by omega))]
end Go.Proofs.Ytmfldffbafamnaa

/- Plain: a number's text is one token, by itself (chapter 25). -/
namespace Go.Proofs.Ytmfldffbafamnaa
set_option linter.unusedVariables false
set_option linter.unusedSimpArgs false
theorem digN_take : ∀ (l : List UInt8) (m : Nat), digN (l.take m) = min (digN l) m
  | [], m => by simp [digN]
  | c :: t, 0 => by simp [digN]
  | c :: t, m + 1 => by
    rw [List.take_succ_cons, digN_cons, digN_cons]
    split
    · rw [digN_take t m]; omega
    · simp
theorem digE_take {x : List UInt8} {e k : Nat} (h : k ≤ e) : digE (x.take e) k = min (digE x k) e := by
  unfold digE
  rw [List.drop_take, digN_take]
  omega
theorem bt_takeL (x : List UInt8) (e i : Nat) : bt (x.take e) i = if i < e then bt x i else 0 := by
  unfold bt
  rw [List.getD_eq_getElem?_getD, List.getD_eq_getElem?_getD, List.getElem?_take]
  split <;> rfl
theorem digE_dig {x : List UInt8} : ∀ (n k i : Nat), digE x k = k + n → k ≤ i → i < k + n → isDg (bt x i)
  | 0, k, i, h, h1, h2 => by omega
  | n + 1, k, i, h, h1, h2 => by
    have hp := digE_pos (l := x) (k := k) (by omega)
    by_cases hi : i = k
    · subst hi; exact hp.2
    · have h3 := digE_yes hp.1 hp.2
      exact digE_dig n (k + 1) i (by omega) (by omega) (by omega)
theorem digE_all {x : List UInt8} {k i : Nat} (h1 : k ≤ i) (h2 : i < digE x k) : isDg (bt x i) :=
  digE_dig (digE x k - k) k i (by have := digE_ge x k; omega) h1 (by have := digE_ge x k; omega)
/-- A number, cut behind its end, is the number. -/
theorem numE_cut {x : List UInt8} {e : Nat} (h : numE x 0 = some e) : numE (x.take e) 0 = some e ∧ (∀ i, i < e → bt x i < 128) ∧ (bt x 0 = 45 ∨ isDg (bt x 0)) ∧ 0 < e := by
  unfold numE at h ⊢
  by_cases hd : digE x (numStart x 0) = numStart x 0
  · rw [if_pos hd] at h; cases h
  rw [if_neg hd] at h
  simp only [Option.some.injEq] at h
  obtain ⟨s0, hs0⟩ : ∃ s0, numStart x 0 = s0 := ⟨_, rfl⟩
  obtain ⟨i1, hi1⟩ : ∃ i1, numInt x s0 = i1 := ⟨_, rfl⟩
  obtain ⟨i2, hi2⟩ : ∃ i2, numFrac x i1 = i2 := ⟨_, rfl⟩
  rw [hs0] at h hd
  rw [hi1, hi2] at h
  have hp := digE_pos hd
  have hge := digE_ge x s0
  have hs1 : (bt x 0 = 45 ∧ s0 = 1) ∨ (bt x 0 ≠ 45 ∧ s0 = 0) := by
    unfold numStart at hs0
    by_cases h1 : bt x 0 = 45
    · rw [if_pos h1] at hs0; exact .inl ⟨h1, by omega⟩
    · rw [if_neg h1] at hs0; exact .inr ⟨h1, by omega⟩
  have hI : (bt x s0 = 48 ∧ i1 = s0 + 1) ∨ (bt x s0 ≠ 48 ∧ i1 = digE x s0) := by
    unfold numInt at hi1
    by_cases h1 : bt x s0 = 48
    · rw [if_pos h1] at hi1; exact .inl ⟨h1, hi1.symm⟩
    · rw [if_neg h1] at hi1; exact .inr ⟨h1, hi1.symm⟩
  have hI2 : s0 < i1 := by omega
  have hFr : ((bt x i1 = 46 ∧ i1 + 1 < digE x (i1 + 1)) ∧ i2 = digE x (i1 + 1)) ∨ (¬ (bt x i1 = 46 ∧ i1 + 1 < digE x (i1 + 1)) ∧ i2 = i1) := by
    unfold numFrac at hi2
    by_cases h1 : bt x i1 = 46 ∧ i1 + 1 < digE x (i1 + 1)
    · rw [if_pos h1] at hi2; exact .inl ⟨h1, hi2.symm⟩
    · rw [if_neg h1] at hi2; exact .inr ⟨h1, hi2.symm⟩
  have hi12 : i1 ≤ i2 := by omega
  obtain ⟨f, hf⟩ : ∃ f, expStart x (i2 + 1) = f := ⟨_, rfl⟩
  have hf1 : ((bt x (i2 + 1) = 43 ∨ bt x (i2 + 1) = 45) ∧ f = i2 + 2) ∨ (¬ (bt x (i2 + 1) = 43 ∨ bt x (i2 + 1) = 45) ∧ f = i2 + 1) := by
    unfold expStart at hf
    by_cases h1 : bt x (i2 + 1) = 43 ∨ bt x (i2 + 1) = 45
    · rw [if_pos h1] at hf; exact .inl ⟨h1, by omega⟩
    · rw [if_neg h1] at hf; exact .inr ⟨h1, hf.symm⟩
  have hX : ((bt x i2 = 101 ∨ bt x i2 = 69) ∧ f < digE x f ∧ e = digE x f) ∨ (e = i2) := by
    unfold numExp at h
    rw [hf] at h
    by_cases h1 : bt x i2 = 101 ∨ bt x i2 = 69
    · rw [if_pos h1] at h
      by_cases h2 : f < digE x f
      · rw [if_pos h2] at h; exact .inl ⟨h1, h2, h.symm⟩
      · rw [if_neg h2] at h; exact .inr h.symm
    · rw [if_neg h1] at h; exact .inr h.symm
  have hi2e : i2 ≤ e := by rcases hX with ⟨_, h2, h3⟩ | h3 <;> omega
  have hs0e : s0 < e := by omega
  refine ⟨?_, ?_, ?_, by omega⟩
  · have a0 : numStart (x.take e) 0 = s0 := by
      have he0 : 0 < e := by omega
      unfold numStart
      rw [bt_takeL, if_pos he0]
      rcases hs1 with ⟨h1, h2⟩ | ⟨h1, h2⟩
      · rw [if_pos h1]; omega
      · rw [if_neg h1]; omega
    have a1 : digE (x.take e) s0 = min (digE x s0) e := digE_take (by omega)
    have a2 : numInt (x.take e) s0 = i1 := by
      unfold numInt
      rw [bt_takeL, if_pos hs0e, a1]
      rcases hI with ⟨h1, h2⟩ | ⟨h1, h2⟩
      · rw [if_pos h1]; omega
      · rw [if_neg h1]; omega
    have a3 : numFrac (x.take e) i1 = i2 := by
      unfold numFrac
      rw [bt_takeL]
      rcases hFr with ⟨⟨h1, h2⟩, h3⟩ | ⟨h1, h3⟩
      · have hlt : i1 < e := by omega
        have hm : i1 + 1 < min (digE x (i1 + 1)) e := by omega
        rw [if_pos hlt, digE_take (by omega), if_pos ⟨h1, hm⟩]; omega
      · by_cases hlt : i1 < e
        · rw [if_pos hlt, digE_take (by omega), if_neg (fun y => h1 ⟨y.1, by omega⟩)]; exact h3.symm
        · rw [if_neg hlt, if_neg (fun y => by have := y.1; omega)]; exact h3.symm
    have a4 : numExp (x.take e) i2 = e := by
      unfold numExp
      rcases hX with ⟨h1, h2, h3⟩ | h3
      · have hlt : i2 + 1 < e := by omega
        have hfs : expStart (x.take e) (i2 + 1) = f := by
          unfold expStart
          rw [bt_takeL, if_pos hlt]
          rcases hf1 with ⟨h4, h5⟩ | ⟨h4, h5⟩
          · rw [if_pos h4]; omega
          · rw [if_neg h4]; omega
        have he2 : i2 < e := by omega
        have hm : f < min (digE x f) e := by omega
        rw [bt_takeL, if_pos he2, if_pos h1, hfs, digE_take (by omega), if_pos hm]; omega
      · have he2 : ¬ i2 < e := by omega
        rw [bt_takeL, if_neg he2, if_neg (by omega)]; exact h3.symm
    have hne : ¬ min (digE x s0) e = s0 := by omega
    rw [a0, a1, if_neg hne, a2, a3, a4]
  · intro i hi
    have dg : ∀ a b, a ≤ b → b < digE x a → bt x b < 128 := fun a b h1 h2 => by have := digE_all h1 h2; unfold isDg at this; omega
    by_cases c1 : i < s0
    · rcases hs1 with ⟨h1, h2⟩ | ⟨h1, h2⟩
      · have : i = 0 := by omega
        subst this; omega
      · omega
    by_cases c2 : i < i1
    · rcases hI with ⟨h1, h2⟩ | ⟨h1, h2⟩
      · have : i = s0 := by omega
        subst this; omega
      · exact dg s0 i (by omega) (by omega)
    by_cases c3 : i < i2
    · rcases hFr with ⟨⟨h1, h2⟩, h3⟩ | ⟨h1, h3⟩
      · by_cases h4 : i = i1
        · subst h4; omega
        · exact dg (i1 + 1) i (by omega) (by omega)
      · omega
    rcases hX with ⟨h1, h2, h3⟩ | h3
    · by_cases h4 : i = i2
      · subst h4; omega
      by_cases h5 : i < f
      · have h6 : i = i2 + 1 := by omega
        rcases hf1 with ⟨h7, h8⟩ | ⟨h7, h8⟩
        · subst h6; omega
        · omega
      · exact dg f i (by omega) (by omega)
    · omega
  · rcases hs1 with ⟨h1, h2⟩ | ⟨h1, h2⟩
    · exact .inl h1
    · subst h2; exact .inr hp.2
end Go.Proofs.Ytmfldffbafamnaa

/- Plain: where a text may end, by the automaton, it is parsed, and no other one is (chapter 25). -/
namespace Go.Proofs.Ytmfldffbafamnaa
set_option linter.unusedVariables false
set_option linter.unusedSimpArgs false
def km (l : List UInt8) : Option (List Nat) := (toks l).map (List.map Tok.kind)
theorem km_shift (o : Option (List Tok)) (d : Nat) : (o.map (List.map (shiftT d))).map (List.map Tok.kind) = o.map (List.map Tok.kind) := by
  cases o with
  | none => rfl
  | some ts => simp [shiftT]
theorem km_nil : km [] = some [] := rfl
theorem km_blank {c : UInt8} {t : List UInt8} (h : blankK c.toNat) : km (c :: t) = km t := by
  unfold km
  rw [toks_step (by simp), bt_h, if_pos h]
  exact km_shift (toks t) 1
theorem km_none {c : UInt8} {t : List UInt8} (h : ¬ blankK c.toNat) (ho : oneT (c :: t) 0 = none) : km (c :: t) = none := by
  unfold km
  rw [toks_step (by simp), bt_h, if_neg h, ho]; rfl
theorem km_tok {c : UInt8} {t : List UInt8} {k : Tok} (h : ¬ blankK c.toNat) (ho : oneT (c :: t) 0 = some k) : km (c :: t) = (km ((c :: t).drop k.to)).map (k.kind :: ·) := by
  unfold km
  rw [toks_step (by simp), bt_h, if_neg h, ho]
  dsimp only
  rw [← km_shift (toks ((c :: t).drop k.to)) k.to]
  cases (toks ((c :: t).drop k.to)).map (List.map (shiftT k.to)) <;> rfl
theorem one_kd {l : List UInt8} {k : Nat} {t : Tok} (h : oneT l k = some t) : isKd t.kind := by
  unfold oneT at h
  split at h
  · rename_i h1; cases h; unfold markK at h1; unfold isKd; dsimp only; omega
  split at h
  · split at h
    · cases h
    · cases h; unfold isKd; dsimp only; omega
  split at h
  · cases h; unfold isKd; dsimp only; omega
  split at h
  · cases h; unfold isKd; dsimp only; omega
  split at h
  · cases h; unfold isKd; dsimp only; omega
  split at h
  · cases h
  · cases h; unfold isKd; dsimp only; omega
theorem toksF_kd : ∀ (f : Nat) (l : List UInt8) (k : Nat) (ts : List Tok), toksF f l k = some ts → ∀ t ∈ ts, isKd t.kind
  | 0, l, k, ts, h, t, ht => by unfold toksF at h; cases h; cases ht
  | f + 1, l, k, ts, h, t, ht => by
    unfold toksF at h
    split at h
    · cases h; cases ht
    · split at h
      · exact toksF_kd f l (k + 1) ts h t ht
      · split at h
        · cases h
        · rename_i h1 h2 u ho
          cases hr : toksF f l u.to with
          | none => rw [hr] at h; cases h
          | some r =>
            rw [hr] at h
            cases h
            rcases List.mem_cons.1 ht with h3 | h3
            · rw [h3]; exact one_kd ho
            · exact toksF_kd f l u.to r hr t h3
theorem next_outM {m : Nat} (hm : m ≤ 5) (o : List UInt8) (c : UInt8) : nextS ⟨m, o, []⟩ c = outS ⟨m, o, []⟩ c := by
  unfold nextS
  dsimp only
  rw [if_neg (by omega), if_neg (by omega), if_neg (by omega)]
theorem byte_is {c : UInt8} {n : Nat} (h : c.toNat = n) (hn : n < 256) : c = UInt8.ofNat n := by
  apply UInt8.toNat.inj
  rw [h]; simp [Nat.mod_eq_of_lt hn]
/-- A bracket, a comma or a colon: the automaton's step. -/
theorem out_mark {m : Nat} (hm : m ≤ 5) (o : List UInt8) (c : UInt8) (hc : markK c.toNat) :
    (∃ p : Nat × List UInt8, stepA m o c.toNat = some p ∧ nextS ⟨m, o, []⟩ c = (⟨p.1, p.2, []⟩, true)) ∨ (stepA m o c.toNat = none ∧ (nextS ⟨m, o, []⟩ c).2 = false) := by
  rw [next_outM hm]
  unfold outS stepA
  dsimp only
  have hbl : ¬ (c.toNat = 32 ∨ c.toNat = 9 ∨ c.toNat = 10 ∨ c.toNat = 13) := by unfold markK at hc; omega
  rw [if_neg hbl]
  by_cases h93 : c.toNat = 93
  · rw [if_pos h93, if_pos h93]
    unfold closeS
    dsimp only
    by_cases h : inB o = 91 ∧ (m = 1 ∨ m = 5)
    · left; rw [if_pos h, if_neg (by omega)]; exact ⟨_, rfl, rfl⟩
    · right; rw [if_neg h, if_pos (by omega)]; exact ⟨rfl, rfl⟩
  rw [if_neg h93, if_neg h93]
  by_cases h125 : c.toNat = 125
  · rw [if_pos h125, if_pos h125]
    unfold closeS
    dsimp only
    by_cases h : inB o = 123 ∧ (m = 2 ∨ m = 5)
    · left; rw [if_pos h, if_neg (by omega)]; exact ⟨_, rfl, rfl⟩
    · right; rw [if_neg h, if_pos (by omega)]; exact ⟨rfl, rfl⟩
  rw [if_neg h125, if_neg h125]
  by_cases h44 : c.toNat = 44
  · rw [if_pos h44, if_pos h44]
    by_cases h : m = 5 ∧ o ≠ []
    · left; rw [if_pos h]
      exact ⟨_, rfl, by rw [h.1]; cases o with | nil => exact absurd rfl h.2 | cons a b => rfl⟩
    · right; rw [if_neg h]
      refine ⟨rfl, ?_⟩
      by_cases h5 : m = 5
      · have : o = [] := Decidable.byContradiction fun x => h ⟨h5, x⟩
        rw [this]; simp
      · simp [h5]
  rw [if_neg h44, if_neg h44]
  by_cases h58 : c.toNat = 58
  · rw [if_pos h58, if_pos h58]
    by_cases h : m = 4
    · left; rw [if_pos h]; exact ⟨_, rfl, by simp [h]⟩
    · right; rw [if_neg h]; exact ⟨rfl, by simp; omega⟩
  rw [if_neg h58, if_neg h58]
  have h34 : ¬ (c.toNat = 34 ∧ (m = 2 ∨ m = 3)) := by unfold markK at hc; omega
  rw [if_neg h34, if_neg h34]
  unfold beginS
  dsimp only
  by_cases hv : ¬ (m = 0 ∨ m = 1) ∨ 32 ≤ o.length
  · right; rw [if_pos hv, if_pos hv]; exact ⟨rfl, rfl⟩
  rw [if_neg hv, if_neg hv]
  left
  by_cases h91 : c.toNat = 91
  · rw [if_pos h91, if_pos h91]; exact ⟨_, rfl, rfl⟩
  · have h123 : c.toNat = 123 := by unfold markK at hc; omega
    rw [if_neg h91, if_neg h91, if_pos h123, if_pos h123]; exact ⟨_, rfl, rfl⟩
/-- Where no value may be, none is. -/
theorem no_value {P : Q → Bool} [hP : OKP P] {m : Nat} (hm : m ≤ 5) {o : List UInt8} {c : UInt8} (t : List UInt8) (hv : ¬ (m = 0 ∨ m = 1) ∨ 32 ≤ o.length) (hb : ¬ blankK c.toNat) (hk : ¬ markK c.toNat) (h34 : ¬ (c.toNat = 34 ∧ (m = 2 ∨ m = 3))) : acc' P ⟨m, o, []⟩ (c :: t) = false := by
  refine acc_no ?_
  rw [next_outM hm]
  unfold blankK at hb
  unfold markK at hk
  unfold outS
  dsimp only
  rw [if_neg (by omega), if_neg (by omega), if_neg (by omega), if_neg (by omega), if_neg (by omega), if_neg h34]
  unfold beginS
  rw [if_pos hv]
theorem atL_no {c : UInt8} {t : List UInt8} (hc : c.toNat = 45 ∨ isDg c.toNat) (a : UInt8) (p : List UInt8) (ha : 58 < a.toNat) : ¬ atL (c :: t) (a :: p) 0 = true := fun h => by
  have := atL_hd h
  rw [bt_h] at this
  unfold isDg at hc
  omega
/-- The token at the front. -/
theorem front_num {c : UInt8} {t : List UInt8} (hc : c.toNat = 45 ∨ isDg c.toNat) : oneT (c :: t) 0 = match numE (c :: t) 0 with | none => none | some e => some ⟨48, ((c :: t).drop 0).take (e - 0), 0, e⟩ := by
  have h1 : ¬ markK c.toNat := by unfold markK; unfold isDg at hc; omega
  have h2 : c.toNat ≠ 34 := by unfold isDg at hc; omega
  unfold oneT
  rw [bt_h, if_neg h1, if_neg h2, if_neg (show ¬ atL (c :: t) tTrue 0 = true from atL_no hc 116 _ (by decide)), if_neg (show ¬ atL (c :: t) tFalse 0 = true from atL_no hc 102 _ (by decide)), if_neg (show ¬ atL (c :: t) tNull 0 = true from atL_no hc 110 _ (by decide))]
  rfl
theorem front_word {c : UInt8} {t : List UInt8} (h1 : ¬ markK c.toNat) (h3 : c.toNat ≠ 34) (h4 : c.toNat ≠ 45) (h5 : ¬ isDg c.toNat) : oneT (c :: t) 0 = if atL (c :: t) tTrue 0 then some ⟨97, tTrue, 0, 0 + 4⟩ else if atL (c :: t) tFalse 0 then some ⟨97, tFalse, 0, 0 + 5⟩ else if atL (c :: t) tNull 0 then some ⟨97, tNull, 0, 0 + 4⟩ else none := by
  have hn : numE (c :: t) 0 = none := by
    unfold numE
    have hs : numStart (c :: t) 0 = 0 := by unfold numStart; rw [bt_h, if_neg h4]
    rw [hs, if_pos (digE_no (by rw [bt_h]; exact h5))]
  unfold oneT
  rw [bt_h, if_neg h1, if_neg h3, hn]
theorem word_low {l p : List UInt8} (h : atL l p 0 = true) (hp : p ≠ []) (hb : ∀ b ∈ p, b.toNat < 128) : good (l.drop p.length) = good l := by
  have hl := (atL_len h).resolve_right hp
  refine good_drop _ _ (by omega) (fun i hi => ?_)
  unfold atL at h
  simp only [Bool.and_eq_true, decide_eq_true_eq, List.drop_zero] at h
  have h2 : bt l i = bt p i := by
    conv => rhs; rw [← h.2]
    unfold bt
    rw [List.getD_eq_getElem?_getD, List.getD_eq_getElem?_getD, List.getElem?_take, if_pos hi]
  rw [h2, ← bt_get hi]
  exact hb _ (List.getElem_mem hi)
/-- The automaton takes a text just as its tokens' kinds say. -/
theorem acc_km : ∀ (N : Nat) (l : List UInt8), l.length ≤ N → good l = true → ∀ (m : Nat) (o : List UInt8), m ≤ 5 → (acc' endS) ⟨m, o, []⟩ l = match km l with | none => false | some ks => accK m o ks
  | N, [], _, _, m, o, hm => by
    rw [km_nil, acc_nil]
    show _ = decide (m = 5 ∧ o = [])
    by_cases h : m = 5
    · subst h; rw [end5]; cases o <;> simp
    · simp [endS, h]; omega
  | 0, _ :: _, hl, _, _, _, _ => by simp at hl
  | N + 1, c :: t, hl, hg, m, o, hm => by
    have hlt : t.length ≤ N := by simp at hl; exact hl
    have h0 : c :: t ≠ [] := by simp
    by_cases hb : blankK c.toNat
    · have hn : nextS ⟨m, o, []⟩ c = (⟨m, o, []⟩, true) := by
        rw [next_outM hm]; unfold outS; unfold blankK at hb; rw [if_pos hb]
      have hgt : good t = true := by rw [← good_ascii (b := c) (by unfold blankK at hb; omega)]; exact hg
      rw [acc_ok hn, km_blank hb]
      exact acc_km N t hlt hgt m o hm
    -- a token that goes on where the rest is known
    have key : ∀ (k : Tok) (m' : Nat) (o' : List UInt8), oneT (c :: t) 0 = some k → stepA m o k.kind = some (m', o') → m' ≤ 5 → 0 < k.to → good ((c :: t).drop k.to) = true → (acc' endS) ⟨m, o, []⟩ (c :: t) = (acc' endS) ⟨m', o', []⟩ ((c :: t).drop k.to) →
        (acc' endS) ⟨m, o, []⟩ (c :: t) = match km (c :: t) with | none => false | some ks => accK m o ks := by
      intro k m' o' ho hs hm' hto hgd ha
      rw [ha, km_tok hb ho, acc_km N _ (by rw [List.length_drop]; simp only [List.length_cons] at *; omega) hgd m' o' hm']
      cases km ((c :: t).drop k.to) with
      | none => rfl
      | some ks => exact (stepA_go hs ks).symm
    have stop : ∀ (k : Tok), oneT (c :: t) 0 = some k → stepA m o k.kind = none → (acc' endS) ⟨m, o, []⟩ (c :: t) = false → (acc' endS) ⟨m, o, []⟩ (c :: t) = match km (c :: t) with | none => false | some ks => accK m o ks := by
      intro k ho hs ha
      rw [ha, km_tok hb ho]
      cases km ((c :: t).drop k.to) with
      | none => rfl
      | some ks => exact (stepA_no hs ks).symm
    have none_ : oneT (c :: t) 0 = none → (acc' endS) ⟨m, o, []⟩ (c :: t) = false → (acc' endS) ⟨m, o, []⟩ (c :: t) = match km (c :: t) with | none => false | some ks => accK m o ks := by
      intro ho ha
      rw [ha, km_none hb ho]
    by_cases hk : markK c.toNat
    · have ho : oneT (c :: t) 0 = some ⟨c.toNat, [], 0, 0 + 1⟩ := by unfold oneT; rw [bt_h, if_pos hk]
      have hgt : good t = true := by rw [← good_ascii (b := c) (by unfold markK at hk; omega)]; exact hg
      rcases out_mark hm o c hk with ⟨⟨m', o'⟩, h1, h2⟩ | ⟨h1, h2⟩
      · refine key _ m' o' ho h1 ?_ (by show 0 < 0 + 1; omega) hgt (acc_ok h2)
        unfold stepA at h1
        repeat' split at h1
        all_goals first | (cases h1; done) | (cases h1; omega) | skip
        all_goals
          simp only [Option.some.injEq, Prod.mk.injEq] at h1
          omega
      · exact stop _ ho h1 (acc_no h2)
    by_cases h34 : c.toNat = 34
    · have hc : c = 34 := UInt8.toNat.inj h34
      subst hc
      have hgt : good t = true := by rw [← good_ascii (b := 34) (by decide)]; exact hg
      have ho : oneT (34 :: t) 0 = match strJ t with | none => none | some (u, n) => some ⟨34, u, 0, 0 + 1 + n⟩ := by
        unfold oneT; rw [bt_h, if_neg hk, if_pos h34]; rfl
      have hdr : ∀ n, (34 :: t).drop (0 + 1 + n) = t.drop n := fun n => by rw [Nat.zero_add, Nat.add_comm 1, List.drop_succ_cons]
      have body : ∀ (q m' : Nat), (q = 6 ∨ q = 7) → (if q = 7 then 4 else 5) = m' → m' ≤ 5 → stepA m o 34 = some (m', o) → nextS ⟨m, o, []⟩ 34 = (⟨q, o, []⟩, true) → (acc' endS) ⟨m, o, []⟩ (34 :: t) = match km (34 :: t) with | none => false | some ks => accK m o ks := by
        intro q m' hq hqm hm' hs hn
        have hstr := acc_str hq o t.length t (Nat.le_refl _) hgt
        cases hx : strJ t with
        | none =>
          rw [hx] at ho hstr
          exact none_ ho (by rw [acc_ok hn]; exact hstr.1)
        | some p =>
          obtain ⟨u, n⟩ := p
          rw [hx] at ho
          have h2 := hstr.2 _ hx
          have h1 := hstr.1
          rw [hx] at h1
          refine key ⟨34, u, 0, 0 + 1 + n⟩ m' o ho hs hm' (by dsimp only; omega) (by dsimp only; rw [hdr]; exact h2) ?_
          dsimp only at h1 ⊢
          rw [acc_ok hn, h1, hqm, hdr]
      have dead : stepA m o 34 = none → (acc' endS) ⟨m, o, []⟩ (34 :: t) = false → (acc' endS) ⟨m, o, []⟩ (34 :: t) = match km (34 :: t) with | none => false | some ks => accK m o ks := by
        intro hs ha
        cases hx : strJ t with
        | none => rw [hx] at ho; exact none_ ho ha
        | some p => obtain ⟨u, n⟩ := p; rw [hx] at ho; exact stop _ ho hs ha
      have hst : stepA m o 34 = if m = 2 ∨ m = 3 then (if o.length < 32 then some (4, o) else none) else if ¬ (m = 0 ∨ m = 1) ∨ 32 ≤ o.length then none else some (5, o) := by
        unfold stepA
        rw [if_neg (by decide), if_neg (by decide), if_neg (by decide), if_neg (by decide)]
        by_cases h : m = 2 ∨ m = 3
        · rw [if_pos ⟨rfl, h⟩, if_pos h]
        · rw [if_neg (fun x => h x.2), if_neg h]; rfl
      have hnx : nextS ⟨m, o, []⟩ 34 = if m = 2 ∨ m = 3 then (⟨7, o, []⟩, decide (o.length < 32)) else beginS ⟨m, o, []⟩ 34 := by
        rw [next_outM hm]
        unfold outS
        dsimp only
        rw [if_neg (by decide), if_neg (by decide), if_neg (by decide), if_neg (by decide), if_neg (by decide)]
        by_cases h : m = 2 ∨ m = 3
        · rw [if_pos ⟨rfl, h⟩, if_pos h]
        · rw [if_neg (fun x => h x.2), if_neg h]
      by_cases h23 : m = 2 ∨ m = 3
      · rw [if_pos h23] at hst hnx
        by_cases hlen : o.length < 32
        · rw [if_pos hlen] at hst
          rw [decide_eq_true hlen] at hnx
          exact body 7 4 (.inr rfl) rfl (by omega) hst hnx
        · rw [if_neg hlen] at hst
          rw [decide_eq_false hlen] at hnx
          exact dead hst (acc_no (by rw [hnx]))
      · rw [if_neg h23] at hst hnx
        by_cases hv : ¬ (m = 0 ∨ m = 1) ∨ 32 ≤ o.length
        · rw [if_pos hv] at hst
          exact dead hst (no_value (P := endS) hm t hv hb hk (fun x => h23 x.2))
        · rw [if_neg hv] at hst
          have hbg : beginS ⟨m, o, []⟩ 34 = (⟨6, o, []⟩, true) := by
            unfold beginS; dsimp only
            rw [if_neg hv, if_neg (by decide), if_neg (by decide), if_pos (by decide)]
          exact body 6 5 (.inl rfl) rfl (by omega) hst (hnx.trans hbg)
    by_cases hnum : c.toNat = 45 ∨ isDg c.toNat
    · have ho := front_num (t := t) hnum
      have hst : stepA m o 48 = if ¬ (m = 0 ∨ m = 1) ∨ 32 ≤ o.length then none else some (5, o) := by
        unfold stepA
        rw [if_neg (by decide), if_neg (by decide), if_neg (by decide), if_neg (by decide), if_neg (by omega)]; rfl
      by_cases hv : ¬ (m = 0 ∨ m = 1) ∨ 32 ≤ o.length
      · rw [if_pos hv] at hst
        have ha := no_value (P := endS) hm t hv hb hk (fun x => h34 x.1)
        cases hx : numE (c :: t) 0 with
        | none => rw [hx] at ho; exact none_ ho ha
        | some e => rw [hx] at ho; exact stop _ ho hst ha
      · rw [if_neg hv] at hst
        have ha := acc_num (P := endS) m o c t (by omega) (by omega) hnum
        cases hx : numE (c :: t) 0 with
        | none => rw [hx] at ho ha; exact none_ ho ha
        | some e =>
          rw [hx] at ho ha
          have hcut := numE_cut hx
          have hbd := numE_bd (by simp) hx
          exact key _ 5 o ho hst (by omega) hcut.2.2.2 (by
            show good ((c :: t).drop e) = true
            rw [good_drop e _ hbd.2 hcut.2.1]; exact hg) ha
    · have h45 : c.toNat ≠ 45 := fun x => hnum (.inl x)
      have hdg : ¬ isDg c.toNat := fun x => hnum (.inr x)
      have ho := front_word (t := t) hk h34 h45 hdg
      have hst : stepA m o 97 = if ¬ (m = 0 ∨ m = 1) ∨ 32 ≤ o.length then none else some (5, o) := by
        unfold stepA
        rw [if_neg (by decide), if_neg (by decide), if_neg (by decide), if_neg (by decide), if_neg (by omega)]; rfl
      have lowT : ∀ b ∈ tTrue, b.toNat < 128 := by decide
      have lowF : ∀ b ∈ tFalse, b.toNat < 128 := by decide
      have lowN : ∀ b ∈ tNull, b.toNat < 128 := by decide
      by_cases hv : ¬ (m = 0 ∨ m = 1) ∨ 32 ≤ o.length
      · rw [if_pos hv] at hst
        have ha := no_value (P := endS) hm t hv hb hk (fun x => h34 x.1)
        by_cases q1 : atL (c :: t) tTrue 0 = true
        · rw [if_pos q1] at ho; exact stop _ ho hst ha
        rw [if_neg q1] at ho
        by_cases q2 : atL (c :: t) tFalse 0 = true
        · rw [if_pos q2] at ho; exact stop _ ho hst ha
        rw [if_neg q2] at ho
        by_cases q3 : atL (c :: t) tNull 0 = true
        · rw [if_pos q3] at ho; exact stop _ ho hst ha
        rw [if_neg q3] at ho
        exact none_ ho ha
      · rw [if_neg hv] at hst
        have ha := acc_word (P := endS) m o c t (by omega) (by omega) hk hb h34 h45 hdg
        by_cases q1 : atL (c :: t) tTrue 0 = true
        · rw [if_pos q1] at ho ha
          exact key _ 5 o ho hst (by omega) (by decide) ((word_low q1 (by decide) lowT).trans hg) ha
        rw [if_neg q1] at ho ha
        by_cases q2 : atL (c :: t) tFalse 0 = true
        · rw [if_pos q2] at ho ha
          exact key _ 5 o ho hst (by omega) (by decide) ((word_low q2 (by decide) lowF).trans hg) ha
        rw [if_neg q2] at ho ha
        by_cases q3 : atL (c :: t) tNull 0 = true
        · rw [if_pos q3] at ho ha
          exact key _ 5 o ho hst (by omega) (by decide) ((word_low q3 (by decide) lowN).trans hg) ha
        rw [if_neg q3] at ho ha
        exact none_ ho ha
theorem shS_zero : ∀ (ts : List Tok) (st st' : Sh), (st.deep = 0 → st.want = 0 ∧ st.op = []) → shS st ts = some st' → st'.deep = 0 → st'.want = 0 ∧ st'.op = []
  | [], st, st', h, hs, hd => by cases hs; exact h hd
  | t :: ts, ⟨op, d, wt⟩, st', h, hs, hd => by
    rw [shS] at hs
    cases h1 : stepSh ⟨op, d, wt⟩ t.kind with
    | none => rw [h1] at hs; cases hs
    | some st1 =>
      rw [h1] at hs
      refine shS_zero ts st1 st' (fun h0 => ?_) hs hd
      have h' : d = 0 → wt = 0 ∧ op = [] := h
      rcases step_inv h1 with ⟨q, _, rfl⟩ | ⟨_, _, rfl⟩ | ⟨_, _, rfl⟩ | ⟨q, _, rfl⟩ | ⟨q, _, rfl⟩ | ⟨q, _, _, rfl⟩
      · have := h' h0; omega
      · simp at h0
      · simp at h0
      · have := h' h0; omega
      · have := h' h0; omega
      · have := h' h0; omega
theorem shS_pos {ts : List Tok} {st : Sh} (h : shS ⟨[], 0, 0⟩ ts = some st) (h1 : st.op = []) (h2 : st.want = 5) : 0 < st.deep := by
  rcases Nat.eq_zero_or_pos st.deep with h3 | h3
  · have := (shS_zero ts _ st (fun _ => ⟨rfl, rfl⟩) h h3).1
    omega
  · exact h3
/-- Where a text may end it is parsed, and no other one is. -/
theorem acc_parse {l : List UInt8} (hg : good l = true) : (acc' endS) ⟨0, [], []⟩ l = match parseJ l with | .ok _ => true | .error _ => false := by
  rw [acc_km l.length l (Nat.le_refl _) hg 0 [] (by omega)]
  unfold km parseJ
  cases htk : toks l with
  | none => rfl
  | some ts =>
    have hkd := toksF_kd _ _ _ _ htk
    have h1 := accK_sh (ts.map Tok.kind) 0 [] 0 (fun k hk => by
      obtain ⟨t, ht, rfl⟩ := List.mem_map.1 hk
      exact hkd t ht) ⟨by omega, by simp, fun b hb => (by cases hb), by omega, by omega⟩ (by omega)
    have h2 : shM ⟨opR [], 0, mu 0⟩ (ts.map Tok.kind) = shS ⟨[], 0, 0⟩ ts := (shS_shM ts _).symm
    rw [h2] at h1
    show accK 0 [] (ts.map Tok.kind) = match (match val ts with | none => Except.error 7 | some (n, k) => if k = ts.length then (if 32 < deepN n then Except.error 8 else Except.ok n) else Except.error 7 : Except Nat Node) with | .ok _ => true | .error _ => false
    rw [h1]
    have h3 := shape_val ts
    unfold shapeN at h3
    cases hv : val ts with
    | none =>
      rw [hv] at h3
      dsimp only at h3 ⊢
      cases hs : shS ⟨[], 0, 0⟩ ts with
      | none => rfl
      | some st =>
        rw [hs] at h3
        dsimp only at h3
        unfold okS
        refine decide_eq_false (fun x => ?_)
        rw [if_pos ⟨x.1, x.2.1⟩] at h3
        have := shS_pos hs x.1 x.2.1
        omega
    | some p =>
      obtain ⟨n, k⟩ := p
      rw [hv] at h3
      dsimp only at h3 ⊢
      have hpos := deepN_pos n
      cases hs : shS ⟨[], 0, 0⟩ ts with
      | none =>
        rw [hs] at h3
        dsimp only at h3
        by_cases hk : k = ts.length
        · rw [if_pos hk] at h3; omega
        · rw [if_neg hk]; rfl
      | some st =>
        rw [hs] at h3
        dsimp only at h3
        unfold okS
        by_cases hst : st.op = [] ∧ st.want = 5
        · rw [if_pos hst] at h3
          by_cases hk : k = ts.length
          · rw [if_pos hk] at h3 ⊢
            by_cases hd : 32 < deepN n
            · rw [if_pos hd]; exact decide_eq_false (fun x => by omega)
            · rw [if_neg hd]; exact decide_eq_true ⟨hst.1, hst.2, by omega⟩
          · rw [if_neg hk] at h3 ⊢
            have := shS_pos hs hst.1 hst.2
            omega
        · rw [if_neg hst] at h3
          by_cases hk : k = ts.length
          · rw [if_pos hk] at h3; omega
          · rw [if_neg hk]; exact decide_eq_false (fun x => hst ⟨x.1, x.2.1⟩)
end Go.Proofs.Ytmfldffbafamnaa

/- Plain: a hole is behind half a string (chapter 25). -/
namespace Go.Proofs.Ytmfldffbafamnaa
set_option linter.unusedVariables false
set_option linter.unusedSimpArgs false
set_option linter.unusedSectionVars false
/-- Half a string, whatever stands behind it. -/
theorem half_str : ∀ (m : Nat) (s u t : List UInt8), s.length ≤ m → readJ s = some u → strJ (s ++ t) = (strJ t).map fun (p : List UInt8 × Nat) => (u ++ p.1, s.length + p.2)
  | m, [], u, t, _, h => by
    rw [readJ_nil] at h
    cases h
    rw [List.nil_append]
    cases strJ t <;> simp
  | 0, _ :: _, _, _, hl, _ => by simp at hl
  | m + 1, c :: s, u, t, hl, h => by
    have h0 : c :: s ≠ [] := by simp
    cases ho : oneJ (c :: s) with
    | none => rw [readJ_none h0 ho] at h; cases h
    | some p =>
      obtain ⟨r, n⟩ := p
      have hb := oneJ_bound ho
      rw [readJ_some h0 ho] at h
      cases hr : readJ ((c :: s).drop n) with
      | none => rw [hr] at h; cases h
      | some v =>
        rw [hr] at h
        cases h
        have h34 : ¬ bt (c :: s ++ t) 0 = 34 := by
          rw [List.cons_append, bt_h]
          intro e
          have hc : c = 34 := UInt8.toNat.inj e
          subst hc
          unfold oneJ at ho
          rw [if_neg h0, bt_h, if_neg (by decide)] at ho
          have hn : next (34 :: s) = (34, 1) := by
            have := next_enc 34 s
            have he : enc 34 = [34] := by decide
            rw [he] at this
            exact this
          rw [hn, if_pos (.inr (.inl rfl))] at ho
          cases ho
        rw [strJ_step (by simp), if_neg h34, oneJ_app ho]
        dsimp only
        rw [List.drop_append_of_le_length hb.2.2.2, half_str m _ v t (by rw [List.length_drop]; simp only [List.length_cons] at *; omega) hr]
        have hl2 : ((c :: s).drop n).length + n = (c :: s).length := by rw [List.length_drop]; omega
        cases strJ t with
        | none => rfl
        | some p =>
          simp only [Option.map_some, List.append_assoc]
          congr 2
          omega
section
variable {q : Nat} (hq : q = 6 ∨ q = 7) (o : List UInt8)
include hq
theorem hole_nil : (acc' holeS) ⟨q, o, []⟩ [] = decide (q = 6) := by
  rw [acc_nil]
  rcases hq with rfl | rfl <;> simp [holeS]
/-- A string's text, up to its last sign, or to the hole. -/
theorem hole_str : ∀ (m : Nat) (l : List UInt8), l.length ≤ m → good l = true →
    (acc' holeS) ⟨q, o, []⟩ l = match strJ l with | none => (decide (q = 6) && (readJ l).isSome) | some p => (acc' holeS) ⟨if q = 7 then 4 else 5, o, []⟩ (l.drop p.2)
  | m, [], _, _ => by rw [hole_nil hq]; show _ = (decide (q = 6) && true); rw [Bool.and_true]
  | 0, _ :: _, hl, _ => by simp at hl
  | m + 1, c :: t, hl, hg => by
    have h0 : c :: t ≠ [] := by simp
    rw [strJ_step h0, bt_h]
    by_cases h34 : c.toNat = 34
    · rw [if_pos h34]
      exact q_close hq o h34 t
    rw [if_neg h34]
    have key : ∀ r n, oneJ (c :: t) = some (r, n) → good ((c :: t).drop n) = true → (acc' holeS) ⟨q, o, []⟩ (c :: t) = (acc' holeS) ⟨q, o, []⟩ ((c :: t).drop n) →
        (acc' holeS) ⟨q, o, []⟩ (c :: t) = match (match oneJ (c :: t) with | none => none | some (r, n) => (strJ ((c :: t).drop n)).map fun (p : List UInt8 × Nat) => (enc r ++ p.1, n + p.2)) with | none => (decide (q = 6) && (readJ (c :: t)).isSome) | some p => (acc' holeS) ⟨if q = 7 then 4 else 5, o, []⟩ ((c :: t).drop p.2) := by
      intro r n ho hgd ha
      have hb := oneJ_bound ho
      have ih := hole_str m ((c :: t).drop n) (by rw [List.length_drop]; simp only [List.length_cons] at *; omega) hgd
      rw [readJ_some h0 ho, ho, ha]
      dsimp only
      cases hs : strJ ((c :: t).drop n) with
      | none =>
        rw [ih, hs]
        show _ = (decide (q = 6) && ((readJ ((c :: t).drop n)).map (enc r ++ ·)).isSome)
        cases readJ ((c :: t).drop n) <;> rfl
      | some p =>
        rw [ih, hs]
        show (acc' holeS) _ (((c :: t).drop n).drop p.2) = (acc' holeS) _ ((c :: t).drop (n + p.2))
        rw [List.drop_drop]
    have bad : oneJ (c :: t) = none → (acc' holeS) ⟨q, o, []⟩ (c :: t) = false → (acc' holeS) ⟨q, o, []⟩ (c :: t) = match (match oneJ (c :: t) with | none => none | some (r, n) => (strJ ((c :: t).drop n)).map fun (p : List UInt8 × Nat) => (enc r ++ p.1, n + p.2)) with | none => (decide (q = 6) && (readJ (c :: t)).isSome) | some p => (acc' holeS) ⟨if q = 7 then 4 else 5, o, []⟩ ((c :: t).drop p.2) := by
      intro ho ha
      rw [readJ_none h0 ho, ho, ha]
      simp
    by_cases h92 : c.toNat = 92
    · have hc : c = 92 := UInt8.toNat.inj h92
      subst hc
      have ho : oneJ (92 :: t) = escJ (92 :: t) := by unfold oneJ; rw [if_neg h0, bt_h, if_pos h92]
      have he := esc_acc (P := holeS) hq o t
      cases hx : escJ (92 :: t) with
      | none =>
        rw [hx] at he
        exact bad (ho.trans hx) he
      | some p =>
        obtain ⟨r, n⟩ := p
        rw [hx] at he
        exact key r n (ho.trans hx) (by rw [esc_good (by rw [bt_h]; rfl) hx]; exact hg) he
    · have hgt := good_take h0 hg
      have ho : oneJ (c :: t) = if (next (c :: t)).1 < 32 ∨ (next (c :: t)).1 = 34 ∨ ((next (c :: t)).1 = 65533 ∧ (next (c :: t)).2 = 1) then none else some (next (c :: t)) := by
        unfold oneJ; rw [if_neg h0, bt_h, if_neg h92]
      have hrn := next_rune_ h0
      obtain ⟨r, hr⟩ : ∃ r, (next (c :: t)).1 = r := ⟨_, rfl⟩
      obtain ⟨n, hn⟩ : ∃ n, (next (c :: t)).2 = n := ⟨_, rfl⟩
      have hnx : next (c :: t) = (r, n) := by rw [← hr, ← hn]
      rw [hr, hn] at hgt
      rw [hr] at hrn
      obtain ⟨g1, g2, g3⟩ := hgt
      have hbad : ¬ (r = 65533 ∧ n = 1) := by
        rw [good_cons h0, hr, hn] at hg
        rintro ⟨rfl, rfl⟩
        simp at hg
      have hhead := enc_head hrn ((c :: t).drop n)
      rw [← g1, bt_h] at hhead
      rw [hnx] at ho
      dsimp only at ho
      by_cases h32 : c.toNat < 32
      · have hr32 : r < 32 := by rcases hhead with h | h <;> omega
        rw [if_pos (.inl hr32)] at ho
        exact bad ho (q_low hq o h32 t)
      · have hno : ¬ (r < 32 ∨ r = 34 ∨ (r = 65533 ∧ n = 1)) := by
          intro h
          rcases h with h | h | h
          · rcases hhead with h2 | h2 <;> omega
          · rcases hhead with h2 | h2 <;> omega
          · exact hbad h
        rw [if_neg hno] at ho
        refine key r n ho g3 ?_
        conv => lhs; rw [g1]
        refine q_pass hq o _ _ (fun b hb => ?_)
        rcases hhead with ⟨h2, h3⟩ | ⟨h2, h3⟩
        · have he : enc (r : Int) = [UInt8.ofNat r] := by
            unfold enc encN
            rw [show rune (r : Int) = r from by unfold rune; rw [if_pos hrn]; rfl, if_pos h2]; rfl
          rw [he] at hb
          have hbb := List.mem_singleton.1 hb
          rw [hbb, of8 (by omega)]; omega
        · have := enc_big hrn h2 b hb
          omega
end
end Go.Proofs.Ytmfldffbafamnaa

/- Plain: whole tokens ahead of a string, whatever stands in it (chapter 25). -/
namespace Go.Proofs.Ytmfldffbafamnaa
set_option linter.unusedVariables false
set_option linter.unusedSimpArgs false
theorem bt_tk {l y : List UInt8} {k i : Nat} (hk : k ≤ l.length) (hi : i < k) : bt (l.take k ++ y) i = bt l i := by
  rw [bt_app (by rw [List.length_take]; omega), bt_takeL, if_pos hi]
theorem unit_same {x l : List UInt8} {j : Nat} (h : ∀ i, j ≤ i → i < j + 6 → bt x i = bt l i) : unitAt x j = unitAt l j := by
  rw [unit_hex, unit_hex]
  unfold hex4 num4
  rw [h j (by omega) (by omega), h (j + 1) (by omega) (by omega), h (j + 2) (by omega) (by omega), h (j + 2 + 1) (by omega) (by omega), h (j + 2 + 2) (by omega) (by omega), h (j + 2 + 3) (by omega) (by omega)]
theorem escJ_pre {l : List UInt8} {r k : Nat} (y : List UInt8) (h : escJ l = some (r, k)) : escJ (l.take k ++ y) = some (r, k) := by
  have hb := escJ_bound h
  have B := fun i (hi : i < k) => bt_tk (y := y) hb.2.2.2 hi
  unfold escJ at h ⊢
  rw [B 1 (by omega)]
  split at h
  · rename_i h1
    rw [if_pos h1]; exact h
  · rename_i h1
    rw [if_neg h1]
    split at h
    · cases h
    · rename_i a ha
      have hk6 : 6 ≤ k := by
        split at h
        · cases h
        · split at h
          · split at h
            · cases h
            · split at h
              · simp only [Option.some.injEq, Prod.mk.injEq] at h; omega
              · cases h
          · simp only [Option.some.injEq, Prod.mk.injEq] at h; omega
      rw [unit_same (j := 0) (fun i _ hi => B i (by omega)), ha]
      dsimp only
      split at h
      · cases h
      · rename_i h2
        rw [if_neg h2]
        split at h
        · rename_i h3
          rw [if_pos h3]
          split at h
          · cases h
          · rename_i b hb2
            split at h
            · rename_i h4
              have hk12 : k = 12 := by simp only [Option.some.injEq, Prod.mk.injEq] at h; omega
              rw [unit_same (j := 6) (fun i _ hi => B i (by omega)), hb2]
              dsimp only
              rw [if_pos h4]; exact h
            · cases h
        · rename_i h3
          rw [if_neg h3]; exact h
theorem oneJ_pre {l : List UInt8} {r k : Nat} (y : List UInt8) (h : oneJ l = some (r, k)) : oneJ (l.take k ++ y) = some (r, k) := by
  have hb := oneJ_bound h
  have hB0 := bt_tk (y := y) (i := 0) hb.2.2.2 (by omega)
  have hne : l ≠ [] := fun e => by have h8 := congrArg List.length e; rw [List.length_nil] at h8; omega
  have hne2 : l.take k ++ y ≠ [] := fun e => by
    have := congrArg List.length e
    rw [List.length_append, List.length_take, List.length_nil] at this
    omega
  unfold oneJ at h
  rw [if_neg hne] at h
  unfold oneJ
  rw [if_neg hne2, hB0]
  split at h
  · rename_i h1
    rw [if_pos h1]; exact escJ_pre y h
  · rename_i h1
    rw [if_neg h1]
    split at h
    · cases h
    · rename_i h2
      simp only [Option.some.injEq] at h
      have hn : next (l.take k ++ y) = next l := by
        rcases next_cases hne with h3 | h3
        · exact absurd (.inr (.inr ⟨by rw [h3], by rw [h3]⟩)) h2
        · have h5 := next_enc ((next l).1 : Int) y
          have h6 : (enc ((next l).1 : Int)).length = (next l).2 := by
            rw [h3.1, List.length_take]; have := (next_bound l).2.2.1; omega
          have h7 : enc ((next l).1 : Int) = l.take k := by rw [h3.1, h]
          rw [h7] at h5
          rw [h5, h3.2, ← h7, h6]
      rw [hn, if_neg h2, h]
/-- A string, cut behind its last sign, with anything behind it. -/
theorem strJ_pre (y : List UInt8) : ∀ (m : Nat) (l u : List UInt8) (n : Nat), l.length ≤ m → strJ l = some (u, n) → strJ (l.take n ++ y) = some (u, n)
  | m, [], u, n, _, h => by rw [strJ_nil] at h; cases h
  | 0, _ :: _, _, _, hl, _ => by simp at hl
  | m + 1, c :: t, u, n, hl, h => by
    have h0 : c :: t ≠ [] := by simp
    have hbd := strJ_bd _ _ (Nat.le_refl _) u n h
    rw [strJ_step h0, bt_h] at h
    have hne2 : (c :: t).take n ++ y ≠ [] := fun e => by
      have := congrArg List.length e
      rw [List.length_append, List.length_take, List.length_nil] at this
      omega
    rw [strJ_step hne2, bt_tk hbd.2.1 (by omega), bt_h]
    split at h
    · rename_i h1
      rw [if_pos h1]; exact h
    · rename_i h1
      rw [if_neg h1]
      split at h
      · cases h
      · rename_i q k ho
        have hb := oneJ_bound ho
        cases hs : strJ ((c :: t).drop k) with
        | none => rw [hs] at h; cases h
        | some p =>
          obtain ⟨v, j⟩ := p
          rw [hs] at h
          simp only [Option.map_some, Option.some.injEq, Prod.mk.injEq] at h
          obtain ⟨rfl, rfl⟩ := h
          have hsp : (c :: t).take (k + j) ++ y = (c :: t).take k ++ (((c :: t).drop k).take j ++ y) := by
            rw [List.take_add, List.append_assoc]
          have hlt : ((c :: t).take k).length = k := by rw [List.length_take]; omega
          have hdr : ((c :: t).take k ++ (((c :: t).drop k).take j ++ y)).drop k = ((c :: t).drop k).take j ++ y := by
            conv => lhs; rw [show k = ((c :: t).take k).length from hlt.symm]
            rw [hlt, List.drop_left' hlt]
          rw [hsp, oneJ_pre _ ho]
          dsimp only
          rw [hdr, strJ_pre y m _ v j (by rw [List.length_drop]; simp only [List.length_cons] at *; omega) hs]
          rfl
/-- Whole tokens ahead of a string. -/
def PreQ (pre : List UInt8) (ts : List Tok) : Prop := ∀ t, toks (pre ++ 34 :: t) = (toks (34 :: t)).map fun us => ts ++ us.map (shiftT pre.length)
theorem shiftT_two (a b : Nat) (ts : List Tok) : (ts.map (shiftT a)).map (shiftT b) = ts.map (shiftT (b + a)) := by
  rw [List.map_map]
  exact List.map_congr_left fun t _ => by simp [shiftT, Nat.add_assoc]
theorem preQ_nil : PreQ [] [] := fun t => by
  show toks (34 :: t) = _
  have : (fun us : List Tok => ([] : List Tok) ++ us.map (shiftT ([] : List UInt8).length)) = id := by
    funext us
    have : us.map (shiftT 0) = us := by
      conv => rhs; rw [← List.map_id us]
      exact List.map_congr_left fun t _ => by simp [shiftT]
    simpa using this
  rw [this]
  cases toks (34 :: t) <;> rfl
theorem preQ_blank {c : UInt8} (hc : blankK c.toNat) {pre : List UInt8} {ts : List Tok} (h : PreQ pre ts) : PreQ (c :: pre) (ts.map (shiftT 1)) := fun t => by
  rw [List.cons_append, toks_step (by simp), bt_h, if_pos hc]
  show (toks (pre ++ 34 :: t)).map (List.map (shiftT 1)) = _
  rw [h]
  cases toks (34 :: t) with
  | none => rfl
  | some us =>
    simp only [Option.map_some, List.map_append]
    rw [shiftT_two, List.length_cons, Nat.add_comm 1]
theorem preQ_tok {p : List UInt8} (hp : p ≠ []) {kd : Nat} {tx : List UInt8} (hb : ¬ blankK (bt p 0)) {pre : List UInt8} {ts : List Tok} (ho : ∀ t, oneT (p ++ (pre ++ 34 :: t)) 0 = some ⟨kd, tx, 0, p.length⟩) (h : PreQ pre ts) : PreQ (p ++ pre) (⟨kd, tx, 0, p.length⟩ :: ts.map (shiftT p.length)) := fun t => by
  have hl := List.length_pos_iff.2 hp
  rw [List.append_assoc, toks_step (by simp [hp]), bt_app hl, if_neg hb, ho]
  dsimp only
  rw [List.drop_left, h]
  cases toks (34 :: t) with
  | none => rfl
  | some us =>
    simp only [Option.map_some, List.map_append, List.cons_append]
    rw [shiftT_two, List.length_append]
end Go.Proofs.Ytmfldffbafamnaa

/- Plain: a text that ends in a hole: whole tokens, and half a string (chapter 25). -/
namespace Go.Proofs.Ytmfldffbafamnaa
set_option linter.unusedVariables false
set_option linter.unusedSimpArgs false
theorem stepA_le {m k m' : Nat} {o o' : List UInt8} (h : stepA m o k = some (m', o')) : m' ≤ 5 := by
  unfold stepA at h
  repeat' split at h
  all_goals first | (cases h; done) | (cases h; omega) | skip
  all_goals
    simp only [Option.some.injEq, Prod.mk.injEq] at h
    omega
theorem oneT_T (Y : List UInt8) : oneT (tTrue ++ Y) 0 = some ⟨97, tTrue, 0, tTrue.length⟩ := by
  show oneT (116 :: ([114, 117, 101] ++ Y)) 0 = _
  rw [front_word (by decide) (by decide) (by decide) (by decide), atL_pre]
  simp [tTrue]
theorem oneT_F (Y : List UInt8) : oneT (tFalse ++ Y) 0 = some ⟨97, tFalse, 0, tFalse.length⟩ := by
  show oneT (102 :: ([97, 108, 115, 101] ++ Y)) 0 = _
  rw [front_word (by decide) (by decide) (by decide) (by decide), atL_pre, atL_pre]
  simp [tTrue, tFalse]
theorem oneT_N (Y : List UInt8) : oneT (tNull ++ Y) 0 = some ⟨97, tNull, 0, tNull.length⟩ := by
  show oneT (110 :: ([117, 108, 108] ++ Y)) 0 = _
  rw [front_word (by decide) (by decide) (by decide) (by decide), atL_pre, atL_pre, atL_pre]
  simp [tTrue, tFalse, tNull]
theorem atL_split {l p : List UInt8} (h : atL l p 0 = true) : l = p ++ l.drop p.length := by
  unfold atL at h
  simp only [Bool.and_eq_true, decide_eq_true_eq, List.drop_zero] at h
  conv => lhs; rw [← List.take_append_drop p.length l, h.2]
/-- Where the automaton is in a hole: whole tokens, and half a string. -/
theorem hole_split : ∀ (N : Nat) (a : List UInt8), a.length ≤ N → good a = true → ∀ (m : Nat) (o : List UInt8), m ≤ 5 → (acc' holeS) ⟨m, o, []⟩ a = true →
    ∃ (pre s u : List UInt8) (ts : List Tok), a = pre ++ 34 :: s ∧ readJ s = some u ∧ PreQ pre ts
  | N, [], _, _, m, o, hm, h => by
    rw [acc_nil] at h
    simp [holeS] at h
    omega
  | 0, _ :: _, hl, _, _, _, _, _ => by simp at hl
  | N + 1, c :: t, hl, hg, m, o, hm, h => by
    have hlt : t.length ≤ N := by simp at hl; exact hl
    by_cases hb : blankK c.toNat
    · have hn : nextS ⟨m, o, []⟩ c = (⟨m, o, []⟩, true) := by
        rw [next_outM hm]; unfold outS; unfold blankK at hb; rw [if_pos hb]
      have hgt : good t = true := by rw [← good_ascii (b := c) (by unfold blankK at hb; omega)]; exact hg
      rw [acc_ok hn] at h
      obtain ⟨pre, s, u, ts, h1, h2, h3⟩ := hole_split N t hlt hgt m o hm h
      exact ⟨c :: pre, s, u, _, by rw [h1]; rfl, h2, preQ_blank hb h3⟩
    -- behind a whole token
    have go : ∀ (p : List UInt8) (kd : Nat) (tx : List UInt8) (m' : Nat) (o' : List UInt8), p ≠ [] → c :: t = p ++ (c :: t).drop p.length → m' ≤ 5 → good ((c :: t).drop p.length) = true → (acc' holeS) ⟨m', o', []⟩ ((c :: t).drop p.length) = true →
        (∀ pre s, (c :: t).drop p.length = pre ++ 34 :: s → ∀ t', oneT (p ++ (pre ++ 34 :: t')) 0 = some ⟨kd, tx, 0, p.length⟩) →
        ∃ (pre s u : List UInt8) (ts : List Tok), c :: t = pre ++ 34 :: s ∧ readJ s = some u ∧ PreQ pre ts := by
      intro p kd tx m' o' hp hsp hm' hgd ha ho
      have hpl := List.length_pos_iff.2 hp
      obtain ⟨pre, s, u, ts, h1, h2, h3⟩ := hole_split N ((c :: t).drop p.length) (by rw [List.length_drop]; simp only [List.length_cons] at *; omega) hgd m' o' hm' ha
      have hb0 : ¬ blankK (bt p 0) := by
        have : bt (c :: t) 0 = bt p 0 := by rw [hsp, bt_app hpl]
        rw [← this, bt_h]; exact hb
      exact ⟨p ++ pre, s, u, _, by rw [List.append_assoc, ← h1]; exact hsp, h2, preQ_tok hp hb0 (ho pre s h1) h3⟩
    by_cases hk : markK c.toNat
    · have hgt : good t = true := by rw [← good_ascii (b := c) (by unfold markK at hk; omega)]; exact hg
      rcases out_mark hm o c hk with ⟨⟨m', o'⟩, h1, h2⟩ | ⟨h1, h2⟩
      · rw [acc_ok h2] at h
        refine go [c] c.toNat [] m' o' (by simp) rfl (stepA_le h1) hgt h (fun pre s _ t' => ?_)
        show oneT (c :: (pre ++ 34 :: t')) 0 = _
        unfold oneT; rw [bt_h, if_pos hk]; rfl
      · rw [acc_no h2] at h; cases h
    by_cases h34 : c.toNat = 34
    · have hc : c = 34 := UInt8.toNat.inj h34
      subst hc
      have hgt : good t = true := by rw [← good_ascii (b := 34) (by decide)]; exact hg
      have body : ∀ (q m' : Nat), (q = 6 ∨ q = 7) → (if q = 7 then 4 else 5) = m' → m' ≤ 5 → nextS ⟨m, o, []⟩ 34 = (⟨q, o, []⟩, true) → ∃ (pre s u : List UInt8) (ts : List Tok), (34 : UInt8) :: t = pre ++ 34 :: s ∧ readJ s = some u ∧ PreQ pre ts := by
        intro q m' hq hqm hm' hn
        rw [acc_ok hn, hole_str hq o t.length t (Nat.le_refl _) hgt] at h
        cases hx : strJ t with
        | none =>
          rw [hx] at h
          simp only [Bool.and_eq_true, decide_eq_true_eq] at h
          obtain ⟨u, hu⟩ := Option.isSome_iff_exists.1 h.2
          exact ⟨[], t, u, [], rfl, hu, preQ_nil⟩
        | some p =>
          obtain ⟨u, n⟩ := p
          have hbd := strJ_bd _ _ (Nat.le_refl _) u n hx
          have hgd := (acc_str hq o t.length t (Nat.le_refl _) hgt).2 _ hx
          rw [hx, hqm] at h
          dsimp only at h hgd
          have hlen : (34 :: t.take n).length = n + 1 := by rw [List.length_cons, List.length_take]; omega
          have hdr : (34 :: t).drop (34 :: t.take n).length = t.drop n := by rw [hlen]; rfl
          refine go (34 :: t.take n) 34 u m' o (by simp) (by rw [hdr, List.cons_append, List.take_append_drop]) hm' (by rw [hdr]; exact hgd) (by rw [hdr]; exact h) (fun pre s _ t' => ?_)
          rw [List.cons_append]
          unfold oneT
          rw [bt_h, if_neg hk, if_pos h34]
          show (match strJ (t.take n ++ (pre ++ 34 :: t')) with | none => none | some (t, n) => some (⟨34, t, 0, 0 + 1 + n⟩ : Tok)) = _
          rw [strJ_pre _ t.length t u n (Nat.le_refl _) hx]
          dsimp only
          rw [hlen, Nat.zero_add, Nat.add_comm 1]
      have hnx : nextS ⟨m, o, []⟩ 34 = if m = 2 ∨ m = 3 then (⟨7, o, []⟩, decide (o.length < 32)) else beginS ⟨m, o, []⟩ 34 := by
        rw [next_outM hm]
        unfold outS
        dsimp only
        rw [if_neg (by decide), if_neg (by decide), if_neg (by decide), if_neg (by decide), if_neg (by decide)]
        by_cases h : m = 2 ∨ m = 3
        · rw [if_pos ⟨rfl, h⟩, if_pos h]
        · rw [if_neg (fun x => h x.2), if_neg h]
      by_cases h23 : m = 2 ∨ m = 3
      · rw [if_pos h23] at hnx
        by_cases hlen : o.length < 32
        · rw [decide_eq_true hlen] at hnx
          exact body 7 4 (.inr rfl) rfl (by omega) hnx
        · rw [decide_eq_false hlen] at hnx
          rw [acc_no (by rw [hnx])] at h; cases h
      · rw [if_neg h23] at hnx
        by_cases hv : ¬ (m = 0 ∨ m = 1) ∨ 32 ≤ o.length
        · rw [no_value (P := holeS) hm t hv hb hk (fun x => h23 x.2)] at h; cases h
        · have hbg : beginS ⟨m, o, []⟩ 34 = (⟨6, o, []⟩, true) := by
            unfold beginS; dsimp only
            rw [if_neg hv, if_neg (by decide), if_neg (by decide), if_pos (by decide)]
          exact body 6 5 (.inl rfl) rfl (by omega) (hnx.trans hbg)
    by_cases hv : ¬ (m = 0 ∨ m = 1) ∨ 32 ≤ o.length
    · rw [no_value (P := holeS) hm t hv hb hk (fun x => h34 x.1)] at h; cases h
    by_cases hnum : c.toNat = 45 ∨ isDg c.toNat
    · rw [acc_num (P := holeS) m o c t (by omega) (by omega) hnum] at h
      cases hx : numE (c :: t) 0 with
      | none => rw [hx] at h; cases h
      | some e =>
        rw [hx] at h
        have hcut := numE_cut hx
        have hbd := numE_bd (by simp) hx
        have h' : (acc' holeS) ⟨5, o, []⟩ ((c :: t).drop e) = true := h
        have hlen : ((c :: t).take e).length = e := by rw [List.length_take]; omega
        have hne : (c :: t).take e ≠ [] := fun x => by rw [x] at hlen; simp at hlen; omega
        refine go ((c :: t).take e) 48 ((c :: t).take e) 5 o hne (by rw [hlen, List.take_append_drop]) (by omega) (by rw [hlen, good_drop e _ hbd.2 hcut.2.1]; exact hg) (by rw [hlen]; exact h') (fun pre s hps t' => ?_)
        rw [hlen] at hps
        -- what stands behind the number
        cases pre with
        | nil =>
          exfalso
          rw [hps, List.nil_append] at h'
          rw [no_value (P := holeS) (by omega) s (.inl (by omega)) (by decide) (by decide) (by omega)] at h'
          cases h'
        | cons d pre =>
          rw [hps, List.cons_append] at h'
          have hsep : sepK d.toNat := by
            refine Decidable.byContradiction (fun x => ?_)
            rw [no_value (P := holeS) (by omega) _ (.inl (by omega)) (fun y => x (.inr y)) (fun y => x (.inl y)) (by omega)] at h'
            cases h'
          have hn2 : numE ((c :: t).take e ++ (d :: pre ++ 34 :: t')) 0 = some e := by
            rw [List.cons_append, numE_mark (l := (c :: t).take e) (r := pre ++ 34 :: t') hsep (by omega)]; exact hcut.1
          obtain ⟨e', he'⟩ : ∃ e', e = e' + 1 := ⟨e - 1, by omega⟩
          have hX : (c :: t).take e ++ (d :: pre ++ 34 :: t') = c :: (t.take e' ++ (d :: pre ++ 34 :: t')) := by rw [he', List.take_succ_cons, List.cons_append]
          have h1 := front_num (t := t.take e' ++ (d :: pre ++ 34 :: t')) hnum
          rw [← hX, hn2] at h1
          dsimp only at h1
          rw [h1, List.drop_zero, Nat.sub_zero, List.take_left' hlen, hlen]
    · have h45 : c.toNat ≠ 45 := fun x => hnum (.inl x)
      have hdg : ¬ isDg c.toNat := fun x => hnum (.inr x)
      rw [acc_word (P := holeS) m o c t (by omega) (by omega) hk hb h34 h45 hdg] at h
      have lowT : ∀ b ∈ tTrue, b.toNat < 128 := by decide
      have lowF : ∀ b ∈ tFalse, b.toNat < 128 := by decide
      have lowN : ∀ b ∈ tNull, b.toNat < 128 := by decide
      by_cases q1 : atL (c :: t) tTrue 0 = true
      · rw [if_pos q1] at h
        exact go tTrue 97 tTrue 5 o (by decide) (atL_split q1) (by omega) ((word_low q1 (by decide) lowT).trans hg) h (fun pre s _ t' => oneT_T _)
      rw [if_neg q1] at h
      by_cases q2 : atL (c :: t) tFalse 0 = true
      · rw [if_pos q2] at h
        exact go tFalse 97 tFalse 5 o (by decide) (atL_split q2) (by omega) ((word_low q2 (by decide) lowF).trans hg) h (fun pre s _ t' => oneT_F _)
      rw [if_neg q2] at h
      by_cases q3 : atL (c :: t) tNull 0 = true
      · rw [if_pos q3] at h
        exact go tNull 97 tNull 5 o (by decide) (atL_split q3) (by omega) ((word_low q3 (by decide) lowN).trans hg) h (fun pre s _ t' => oneT_N _)
      rw [if_neg q3] at h
      cases h
end Go.Proofs.Ytmfldffbafamnaa

/- Plain: whatever a text is, written it stays in the hole's string (chapter 25). -/
namespace Go.Proofs.Ytmfldffbafamnaa
set_option linter.unusedVariables false
set_option linter.unusedSimpArgs false
def q0' : Q := ⟨0, [], []⟩
def pOK' (l : List UInt8) : Bool := match parseJ l with | .ok _ => true | .error _ => false
theorem run_app : ∀ (a : List UInt8) (q : Q) (b : List UInt8), (runS q a).2 = true → runS q (a ++ b) = runS (runS q a).1 b
  | [], q, b, _ => rfl
  | c :: a, q, b, h => by
    rw [runS] at h
    rw [List.cons_append, runS, runS]
    by_cases h1 : (nextS q c).2 = true
    · rw [if_pos h1] at h
      rw [if_pos h1, if_pos h1]; exact run_app a _ b h
    · rw [if_neg h1] at h; cases h
theorem good_app (b : List UInt8) : ∀ (n : Nat) (a : List UInt8), a.length ≤ n → good a = true → good (a ++ b) = good b
  | n, [], _, _ => rfl
  | 0, _ :: _, hl, _ => by simp at hl
  | n + 1, c :: a, hl, hg => by
    have h0 : c :: a ≠ [] := by simp
    obtain ⟨g1, g2, g3⟩ := good_take h0 hg
    have hb := next_bound (c :: a)
    have h1 : 1 ≤ (next (c :: a)).2 := hb.2.2.2 h0
    have : c :: a ++ b = enc ((next (c :: a)).1 : Int) ++ ((c :: a).drop (next (c :: a)).2 ++ b) := by
      rw [← List.append_assoc, ← g1]
    rw [this, good_enc]
    exact good_app b n _ (by rw [List.length_drop]; simp only [List.length_cons] at *; omega) g3
/-- The tokens of a text whose hole's string goes on so. -/
theorem toks_hole {pre s u x v : List UInt8} {ts : List Tok} {n : Nat} (hp : PreQ pre ts) (hs : readJ s = some u) (hx : strJ x = some (v, n)) :
    toks (pre ++ 34 :: (s ++ x)) = (toks (x.drop n)).map fun rs => ts ++ ⟨34, u ++ v, pre.length, pre.length + (1 + (s.length + n))⟩ :: rs.map (shiftT (pre.length + (1 + (s.length + n)))) := by
  have h1 : strJ (s ++ x) = some (u ++ v, s.length + n) := by rw [half_str _ s u x (Nat.le_refl _) hs, hx]; rfl
  have hd : (34 :: (s ++ x)).drop (0 + 1 + (s.length + n)) = x.drop n := by
    rw [Nat.zero_add, Nat.add_comm 1, List.drop_succ_cons, List.drop_append, List.drop_of_length_le (by omega), List.nil_append]
    congr 1
    omega
  have ho : oneT (34 :: (s ++ x)) 0 = some ⟨34, u ++ v, 0, 0 + 1 + (s.length + n)⟩ := by
    unfold oneT
    rw [bt_h, if_neg (by decide), if_pos (by decide)]
    show (match strJ (s ++ x) with | none => none | some (t, n) => some (⟨34, t, 0, 0 + 1 + n⟩ : Tok)) = _
    rw [h1]
  rw [hp, toks_step (by simp), bt_h, if_neg (by decide), ho]
  dsimp only
  rw [hd]
  cases toks (x.drop n) with
  | none => rfl
  | some rs =>
    simp only [Option.map_some, List.map_cons]
    rw [shiftT_two]
    simp [shiftT]
/-- What is written into a hole stays in its string. -/
theorem hole_plain {a b : List UInt8} (ha : good a = true) (hb : good b = true) (h1 : (runS q0' a).2 = true) (h2 : holeS (runS q0' a).1 = true) (h3 : (runS (runS q0' a).1 b).2 = true) (h4 : endS (runS (runS q0' a).1 b).1 = true) (text : List UInt8) :
    ∃ (ts A A' : List Tok) (T T' : List UInt8) (f t1 t2 : Nat), toks (a ++ b) = some (ts ++ ⟨34, T, f, t1⟩ :: A) ∧ toks (a ++ (writeJ text ++ b)) = some (ts ++ ⟨34, T', f, t2⟩ :: A') ∧
      A.map (fun t => (t.kind, t.text)) = A'.map (fun t => (t.kind, t.text)) ∧ T'.length = T.length + (joined (runes text)).length ∧ (joined (runes text) = [] → T' = T) ∧ f ≤ a.length ∧ a.length ≤ t2 ∧ pOK' (a ++ (writeJ text ++ b)) = true := by
  have hh : acc' holeS ⟨0, [], []⟩ a = true := by unfold acc'; rw [show runS ⟨0, [], []⟩ a = runS q0' a from rfl, h1, h2]; rfl
  obtain ⟨pre, s, u, ts, e1, e2, e3⟩ := hole_split a.length a (Nat.le_refl _) ha 0 [] (by omega) hh
  have hgab : good (a ++ b) = true := by rw [good_app b _ a (Nat.le_refl _) ha]; exact hb
  have hgw : good (a ++ (writeJ text ++ b)) = true := by rw [good_app _ _ a (Nat.le_refl _) ha, good_app _ _ _ (Nat.le_refl _) (good_write text)]; exact hb
  have hacc : acc' endS ⟨0, [], []⟩ (a ++ b) = true := by
    unfold acc'
    rw [show runS ⟨0, [], []⟩ (a ++ b) = runS q0' (a ++ b) from rfl, run_app a q0' b h1, h3, h4]; rfl
  have hpar := acc_parse hgab
  rw [hacc] at hpar
  have hkm := acc_km _ _ (Nat.le_refl _) hgab 0 [] (by omega)
  rw [hacc] at hkm
  have hal : a.length = pre.length + (1 + s.length) := by rw [e1]; simp; omega
  have hread := read_write text
  have eab : a ++ b = pre ++ 34 :: (s ++ b) := by rw [e1]; simp
  have eaw : a ++ (writeJ text ++ b) = pre ++ 34 :: (s ++ (writeJ text ++ b)) := by rw [e1]; simp
  cases hx : strJ b with
  | none =>
    exfalso
    have ho : oneT (34 :: (s ++ b)) 0 = none := by
      unfold oneT
      rw [bt_h, if_neg (by decide), if_pos (by decide)]
      show (match strJ (s ++ b) with | none => none | some (t, n) => some (⟨34, t, 0, 0 + 1 + n⟩ : Tok)) = _
      rw [half_str _ s u b (Nat.le_refl _) e2, hx]; rfl
    have : toks (a ++ b) = none := by rw [eab, e3, toks_step (by simp), bt_h, if_neg (by decide), ho]; rfl
    unfold km at hkm
    rw [this] at hkm
    cases hkm
  | some p =>
    obtain ⟨v, n⟩ := p
    have t1 := toks_hole e3 e2 hx
    have hxw : strJ (writeJ text ++ b) = some (joined (runes text) ++ v, (writeJ text).length + n) := by rw [half_str _ _ _ b (Nat.le_refl _) hread, hx]; rfl
    have t2 := toks_hole e3 e2 hxw
    have hdr : (writeJ text ++ b).drop ((writeJ text).length + n) = b.drop n := by rw [← List.drop_drop, List.drop_left]
    rw [hdr] at t2
    rw [← eab] at t1
    rw [← eaw] at t2
    cases hr : toks (b.drop n) with
    | none =>
      exfalso
      rw [hr] at t1
      unfold km at hkm
      rw [t1] at hkm
      cases hkm
    | some rs =>
      rw [hr] at t1 t2
      simp only [Option.map_some] at t1 t2
      refine ⟨ts, _, _, _, _, _, _, _, t1, t2, ?_, ?_, ?_, ?_, ?_, ?_⟩
      · simp [shiftT]
      · simp only [List.length_append]; omega
      · intro e; rw [e]; simp
      · omega
      · omega
      · have hk2 := acc_km _ _ (Nat.le_refl _) hgw 0 [] (by omega)
        have hkk : km (a ++ (writeJ text ++ b)) = km (a ++ b) := by
          unfold km
          rw [t1, t2]
          simp [shiftT]
        rw [hkk, ← hkm, acc_parse hgw] at hk2
        unfold pOK'
        exact hk2
end Go.Proofs.Ytmfldffbafamnaa

/- Plain: both rows of tokens are alike but for the hole's (chapter 25). -/
namespace Go.Proofs.Ytmfldffbafamnaa
set_option linter.unusedVariables false
set_option linter.unusedSimpArgs false
theorem rows_alike {ts A1 A2 Lr Mr : List Tok} {x y : Tok} (hL : ts ++ y :: A2 = Lr) (hM : ts ++ x :: A1 = Mr) (hxy : y.kind = x.kind) (hk : A1.map (fun t => (t.kind, t.text)) = A2.map (fun t => (t.kind, t.text))) :
    ∀ i, i < Mr.length → ∃ tl tm, Lr[i]? = some tl ∧ Mr[i]? = some tm ∧ tl.kind = tm.kind ∧ (i ≠ ts.length → tl.text = tm.text) ∧ (i = ts.length → tl = y ∧ tm = x) := by
  intro i hi
  have hlen : A1.length = A2.length := by have := congrArg List.length hk; simpa using this
  rcases Nat.lt_or_ge i ts.length with h | h
  · refine ⟨ts[i], ts[i], ?_, ?_, rfl, fun _ => rfl, fun e => by omega⟩
    · rw [← hL, List.getElem?_append_left h, List.getElem?_eq_getElem h]
    · rw [← hM, List.getElem?_append_left h, List.getElem?_eq_getElem h]
  · rcases Nat.eq_or_lt_of_le h with h2 | h2
    · subst h2
      exact ⟨y, x, by rw [← hL]; simp, by rw [← hM]; simp, hxy, fun e => absurd rfl e, fun _ => ⟨rfl, rfl⟩⟩
    · obtain ⟨j, rfl⟩ : ∃ j, i = ts.length + (j + 1) := ⟨i - ts.length - 1, by omega⟩
      have hj : j < A1.length := by rw [← hM] at hi; simp at hi; omega
      have e1 : Mr[ts.length + (j + 1)]? = some A1[j] := by rw [← hM, List.getElem?_append_right (by omega), Nat.add_sub_cancel_left, List.getElem?_cons_succ, List.getElem?_eq_getElem hj]
      have e2 : Lr[ts.length + (j + 1)]? = some (A2[j]'(by omega)) := by rw [← hL, List.getElem?_append_right (by omega), Nat.add_sub_cancel_left, List.getElem?_cons_succ, List.getElem?_eq_getElem (by omega)]
      have e3 := congrArg (fun l => l[j]?) hk
      simp only [List.getElem?_map, List.getElem?_eq_getElem hj, List.getElem?_eq_getElem (show j < A2.length by omega), Option.map_some, Option.some.injEq, Prod.mk.injEq] at e3
      exact ⟨_, _, e2, e1, e3.1.symm, fun _ => e3.2.symm, fun e => by omega⟩
theorem toksF_bd : ∀ (f : Nat) (l : List UInt8) (k : Nat) (ts : List Tok), toksF f l k = some ts → ∀ t ∈ ts, t.kind < 256 ∧ t.text.length ≤ 4 * l.length
  | 0, l, k, ts, h, t, ht => by unfold toksF at h; cases h; cases ht
  | f + 1, l, k, ts, h, t, ht => by
    unfold toksF at h
    split at h
    · cases h; cases ht
    · split at h
      · exact toksF_bd f l (k + 1) ts h t ht
      · split at h
        · cases h
        · rename_i h1 h2 u ho
          cases hr : toksF f l u.to with
          | none => rw [hr] at h; cases h
          | some r =>
            rw [hr] at h
            cases h
            rcases List.mem_cons.1 ht with h3 | h3
            · rw [h3]; obtain ⟨_, _, _, h4, h5⟩ := oneT_bd (by omega) ho; exact ⟨h4, h5⟩
            · exact toksF_bd f l u.to r hr t h3
theorem toks_bd {l : List UInt8} {ts : List Tok} (h : toks l = some ts) {i : Nat} {t : Tok} (ht : ts[i]? = some t) : t.kind < 256 ∧ t.text.length ≤ 4 * l.length := toksF_bd _ _ _ _ h t (List.mem_of_getElem? ht)
end Go.Proofs.Ytmfldffbafamnaa

/- Walks: the law MemberHolds: where there is no hole (chapter 25). -/
namespace Go.Proofs.Ytmfldffbafamnaa
open Go.RowKit
set_option linter.unusedVariables false
set_option linter.unusedSimpArgs false
set_option linter.constructorNameAsVariable false
theorem runS_goodH {k : Nat} {q : Q} (h : q.good k) (l : List UInt8) : (runS q l).1.good (k + l.length) := by
  induction l generalizing q k with
  | nil => exact h
  | cons c t ih =>
    rw [runS]
    by_cases e : (nextS q c).2 = true
    · rw [if_pos e]
      have := ih (nextS_good h c)
      rw [List.length_cons, show k + (t.length + 1) = k + 1 + t.length by omega]
      exact this
    · rw [if_neg e]
      exact ⟨h.m, by have := h.o; simp; omega, by have := h.p; simp; omega, h.n⟩
/-- May the law go on? -/
def goesH (a b : List UInt8) : Bool := (runS q0 a).2 && ((runS (runS q0 a).1 b).2 && (holeS (runS q0 a).1 && (endS (runS (runS q0 a).1 b).1 && (good a && good b))))
set_option maxRecDepth 100000 in
set_option maxHeartbeats 8000000 in
theorem holds_none (la lb lt : List UInt8) (w : World) (h1 : la.length ≤ 9223372036854775807) (h2 : lb.length ≤ 9223372036854775807) (h3 : lt.length ≤ 9223372036854775807) (hgo : goesH (la.take 120) (lb.take 120) = false) :
    Calls Try.prog 5 #[.string (strOf la), .string (strOf lb), .string (strOf lt)] w fun e w' => e = .returned (.bool true) ∧ Below w.heap.size w w' := by
  have HFa := Lib.hid (fun w => few_any la w h1)
  have HFb := Lib.hid (fun w => few_any lb w h2)
  have HFt := Lib.hid (fun w => few_any lt w h3)
  have ha : (la.take 120).length ≤ 120 := by rw [List.length_take]; omega
  have hb : (lb.take 120).length ≤ 120 := by rw [List.length_take]; omega
  generalize la.take 120 = a at *
  generalize lb.take 120 = b at *
  generalize lt.take 120 = t at *
  have HR := Lib.hid (fun w => run0 a w (by omega))
  have hgd := runS_goodH q0_good a
  have HR2 := Lib.hid (fun w => run_any (runS q0 a).1 b (0 + a.length) w hgd (by omega))
  have HIa : Hid (∀ w, Calls Try.prog 15 #[.string (strOf a)] w fun e w' => e = .returned (.bool (good a)) ∧ Below w.heap.size w w') := by
    intro w
    have := ris_any (strOf a) w (by rw [strOf_size]; omega)
    rw [strOf_list] at this
    exact this
  have HIb : Hid (∀ w, Calls Try.prog 15 #[.string (strOf b)] w fun e w' => e = .returned (.bool (good b)) ∧ Below w.heap.size w w') := by
    intro w
    have := ris_any (strOf b) w (by rw [strOf_size]; omega)
    rw [strOf_list] at this
    exact this
  have HA := Lib.hid (fun w => awake_any w)
  unfold goesH at hgo
  clear hgd
  generalize runS q0 a = r at *
  obtain ⟨⟨x1, x2, x3⟩, y⟩ := r
  dsimp only at HR2 hgo
  generalize runS ⟨x1, x2, x3⟩ b = r2 at *
  obtain ⟨⟨z1, z2, z3⟩, y2⟩ := r2
  have HH := Lib.hid (fun w => hole_any ⟨x1, x2, x3⟩ w)
  have HE := Lib.hid (fun w => end_any ⟨z1, z2, z3⟩ w)
  dsimp only at hgo
  generalize holeS ⟨x1, x2, x3⟩ = hh at *
  generalize endS ⟨z1, z2, z3⟩ = ee at *
  generalize good a = ga at *
  generalize good b = gb at *
  unfold qr Q.v sv at HR HR2
  unfold Q.v sv at HH HE
  dsimp only at HR HR2 HH HE
  clear ha hb
  generalize strOf a = A at *
  generalize strOf b = B at *
  generalize strOf t = T at *
  go_enter Try.func5, Try.ntmps5
  go_wp2_with fail
  refine (HFa.out _).mono ?_
  rintro e w1 ⟨rfl, rfl⟩
  go_wp2_with fail
  refine (HFb.out _).mono ?_
  rintro e w1 ⟨rfl, rfl⟩
  go_wp2_with fail
  refine (HFt.out _).mono ?_
  rintro e w1 ⟨rfl, rfl⟩
  go_wp2_with fail
  refine (HR.out _).mono ?_
  rintro e w2 ⟨rfl, b2⟩
  have HX2 := Lib.hid (Blk.new w2 25 #[.int .i64 x1, .string (strOf x2), .string (strOf x3)])
  have HB2 := Lib.hid (b2.alloc b2.size (.cells #[.int .i64 x1, .string (strOf x2), .string (strOf x3)] 25))
  clear b2
  go_upto_region 3 with fail
  generalize hBB : w2.heap.size = B1 at *
  generalize hW : w2.alloc (.cells #[.int .i64 x1, .string (strOf x2), .string (strOf x3)] 25) = W3 at *
  clear hW hBB
  have c0 := HX2.out.cell 0
  have c1 := HX2.out.cell 1
  have c2 := HX2.out.cell 2
  go_wp2_with fail
  refine (HR2.out _).mono ?_
  rintro e w4 ⟨rfl, b4⟩
  have HX4 := Lib.hid ((Blk.below HX2.out b4 (Blk.lt HX2.out)).alloc (.cells #[.int .i64 z1, .string (strOf z2), .string (strOf z3)] 25))
  have HY4 := Lib.hid (Blk.new w4 25 #[.int .i64 z1, .string (strOf z2), .string (strOf z3)])
  have HB4 := Lib.hid ((HB2.out.trans (b4.mono HB2.out.size)).alloc (HB2.out.trans (b4.mono HB2.out.size)).size (.cells #[.int .i64 z1, .string (strOf z2), .string (strOf z3)] 25))
  clear b4 HX2 HB2 c0 c1 c2
  go_upto_region 4 with fail
  generalize hBB : w4.heap.size = B2 at *
  generalize hW : w4.alloc (.cells #[.int .i64 z1, .string (strOf z2), .string (strOf z3)] 25) = W5 at *
  clear hW hBB
  have c0 := HX4.out.cell 0
  have c1 := HX4.out.cell 1
  have c2 := HX4.out.cell 2
  cases y
  · go_wp2_with fail
    refine (HA.out _).mono ?_
    rintro e w9 ⟨rfl, b9⟩
    go_wp2_with fail
    go_ret
    exact ⟨rfl, HB4.out.trans (b9.mono HB4.out.size)⟩
  cases y2
  · go_wp2_with fail
    refine (HA.out _).mono ?_
    rintro e w9 ⟨rfl, b9⟩
    go_wp2_with fail
    go_ret
    exact ⟨rfl, HB4.out.trans (b9.mono HB4.out.size)⟩
  go_wp2_with fail
  refine (HH.out _).mono ?_
  rintro e w6 ⟨rfl, b6⟩
  have HY6 := Lib.hid (Blk.below HY4.out b6 (Blk.lt HY4.out))
  have HB6 := Lib.hid (HB4.out.trans (b6.mono HB4.out.size))
  clear b6 HX4 HY4 HB4 c0 c1 c2
  cases hh
  · go_wp2_with fail
    refine (HA.out _).mono ?_
    rintro e w9 ⟨rfl, b9⟩
    go_wp2_with fail
    go_ret
    exact ⟨rfl, HB6.out.trans (b9.mono HB6.out.size)⟩
  have c0 := HY6.out.cell 0
  have c1 := HY6.out.cell 1
  have c2 := HY6.out.cell 2
  go_wp2_with fail
  refine (HE.out _).mono ?_
  rintro e w7 ⟨rfl, b7⟩
  have HB7 := Lib.hid (HB6.out.trans (b7.mono HB6.out.size))
  clear b7 HY6 HB6 c0 c1 c2
  cases ee
  · go_wp2_with fail
    refine (HA.out _).mono ?_
    rintro e w9 ⟨rfl, b9⟩
    go_wp2_with fail
    go_ret
    exact ⟨rfl, HB7.out.trans (b9.mono HB7.out.size)⟩
  go_wp2_with fail
  refine (HIa.out _).mono ?_
  rintro e w8 ⟨rfl, b8⟩
  have HB8 := Lib.hid (HB7.out.trans (b8.mono HB7.out.size))
  clear b8 HB7
  cases ga
  · go_wp2_with fail
    refine (HA.out _).mono ?_
    rintro e w9 ⟨rfl, b9⟩
    go_wp2_with fail
    go_ret
    exact ⟨rfl, HB8.out.trans (b9.mono HB8.out.size)⟩
  have hgb : gb = false := by simpa using hgo
  subst hgb
  go_wp2_with fail
  refine (HIb.out _).mono ?_
  rintro e w10 ⟨rfl, b10⟩
  have HB10 := Lib.hid (HB8.out.trans (b10.mono HB8.out.size))
  clear b10 HB8
  go_wp2_with fail
  refine (HA.out _).mono ?_
  rintro e w9 ⟨rfl, b9⟩
  go_wp2_with fail
  go_ret
  exact ⟨rfl, HB10.out.trans (b9.mono HB10.out.size)⟩
end Go.Proofs.Ytmfldffbafamnaa

/- Walks: the law MemberHolds: where it goes on (chapter 25). -/
namespace Go.Proofs.Ytmfldffbafamnaa
open Go.RowKit
set_option linter.unusedVariables false
set_option linter.unusedSimpArgs false
set_option linter.constructorNameAsVariable false
theorem TokAt.fourH {w : World} {B : Nat} {ao : Option Addr} {ts : List Tok} {j : Nat} {t : Tok} (h : TokAt w B ao ts) (ht : ts[j]? = some t) :
    ∃ g, ao = some ⟨g, 0, none⟩ ∧ w.cell? ⟨g, j * 4, none⟩ = some (.int .u8 t.kind) ∧ w.cell? ⟨g, j * 4 + 1, none⟩ = some (.string (strOf t.text)) ∧ w.cell? ⟨g, j * 4 + 2, none⟩ = some (.int .i64 t.frm) ∧ w.cell? ⟨g, j * 4 + 3, none⟩ = some (.int .i64 t.to) := by
  rcases h with h | ⟨g, hg, hl, hc⟩
  · subst h; simp at ht
  · exact ⟨g, hg, hc _ _ (tokCs_at ts j 0 t ht (by omega)), hc _ _ (tokCs_at ts j 1 t ht (by omega)), hc _ _ (tokCs_at ts j 2 t ht (by omega)), hc _ _ (tokCs_at ts j 3 t ht (by omega))⟩
set_option maxRecDepth 100000 in
set_option maxHeartbeats 8000000 in
theorem holds_goes (la lb lt : List UInt8) (w : World) (h1 : la.length ≤ 9223372036854775807) (h2 : lb.length ≤ 9223372036854775807) (h3 : lt.length ≤ 9223372036854775807) (hgo : goesH (la.take 120) (lb.take 120) = true) :
    Calls Try.prog 5 #[.string (strOf la), .string (strOf lb), .string (strOf lt)] w fun e w' => e = .returned (.bool true) ∧ Below w.heap.size w w' := by
  have HFa := Lib.hid (fun w => few_any la w h1)
  have HFb := Lib.hid (fun w => few_any lb w h2)
  have HFt := Lib.hid (fun w => few_any lt w h3)
  have ha : (la.take 120).length ≤ 120 := by rw [List.length_take]; omega
  have hb : (lb.take 120).length ≤ 120 := by rw [List.length_take]; omega
  generalize la.take 120 = a at *
  generalize lb.take 120 = b at *
  have ht0 : (lt.take 120).length ≤ 120 := by rw [List.length_take]; omega
  generalize lt.take 120 = t at *
  have HR := Lib.hid (fun w => run0 a w (by omega))
  have hgd := runS_goodH q0_good a
  have HR2 := Lib.hid (fun w => run_any (runS q0 a).1 b (0 + a.length) w hgd (by omega))
  have HIa : Hid (∀ w, Calls Try.prog 15 #[.string (strOf a)] w fun e w' => e = .returned (.bool (good a)) ∧ Below w.heap.size w w') := by
    intro w
    have := ris_any (strOf a) w (by rw [strOf_size]; omega)
    rw [strOf_list] at this
    exact this
  have HIb : Hid (∀ w, Calls Try.prog 15 #[.string (strOf b)] w fun e w' => e = .returned (.bool (good b)) ∧ Below w.heap.size w w') := by
    intro w
    have := ris_any (strOf b) w (by rw [strOf_size]; omega)
    rw [strOf_list] at this
    exact this
  have HA := Lib.hid (fun w => awake_any w)
  have hJ : ∀ x y : List UInt8, strOf x ++ strOf y = strOf (x ++ y) := fun x y => by simp [strOf, ByteArray.mk_append_mk]
  have ht := ht0
  have hwl := write_length t
  have HW : Hid (∀ w, Calls Try.prog 18 #[.string (strOf t)] w fun e w' => e = .returned (.string (strOf (writeJ t))) ∧ Below w.heap.size w w') := by
    intro w
    have := rwrite_any (strOf t) w (by rw [strOf_size]; omega)
    rw [strOf_list] at this
    exact this
  have HWh : Hid (∀ w, Calls Try.prog 20 #[.string (strOf t)] w fun e w' => e = .returned (.string (strOf (joined (runes t)))) ∧ Below w.heap.size w w') := by
    intro w
    have := rwhole_any (strOf t) w (by rw [strOf_size]; omega)
    rw [strOf_list] at this
    exact this
  have hgo2 := hgo
  unfold goesH at hgo2
  simp only [Bool.and_eq_true] at hgo2
  obtain ⟨g1, g2, g3, g4, g5, g6⟩ := hgo2
  obtain ⟨ts, A1, A2, T1, T2, f, t1, t2, k1, k2, k3, k4, k5, k6, k7, k8⟩ := hole_plain g5 g6 g1 g3 g2 g4 t
  clear g1 g2 g3 g4 g5 g6
  unfold goesH at hgo
  clear hgd
  generalize runS q0 a = r at *
  obtain ⟨⟨x1, x2, x3⟩, y⟩ := r
  dsimp only at HR2 hgo
  generalize runS ⟨x1, x2, x3⟩ b = r2 at *
  obtain ⟨⟨z1, z2, z3⟩, y2⟩ := r2
  have HH := Lib.hid (fun w => hole_any ⟨x1, x2, x3⟩ w)
  have HE := Lib.hid (fun w => end_any ⟨z1, z2, z3⟩ w)
  dsimp only at hgo
  generalize holeS ⟨x1, x2, x3⟩ = hh at *
  generalize endS ⟨z1, z2, z3⟩ = ee at *
  generalize good a = ga at *
  generalize good b = gb at *
  unfold qr Q.v sv at HR HR2
  unfold Q.v sv at HH HE
  dsimp only at HR HR2 HH HE
  have hJ1 : strOf a ++ strOf (writeJ t) = strOf (a ++ writeJ t) := hJ _ _
  have hJ2 : strOf (a ++ writeJ t) ++ strOf b = strOf (a ++ (writeJ t ++ b)) := by rw [hJ, List.append_assoc]
  have hJ3 : strOf a ++ strOf b = strOf (a ++ b) := hJ _ _
  have sA : (strOf a).size ≤ 120 := by rw [strOf_size]; exact ha
  have sB : (strOf b).size ≤ 120 := by rw [strOf_size]; exact hb
  have sW : (strOf (writeJ t)).size ≤ 720 := by rw [strOf_size]; omega
  have sAW : (strOf (a ++ writeJ t)).size ≤ 840 := by rw [strOf_size, List.length_append]; omega
  have sL : (strOf (a ++ (writeJ t ++ b))).size ≤ 1000 := by rw [strOf_size, List.length_append, List.length_append]; omega
  have sM : (strOf (a ++ b)).size ≤ 1000 := by rw [strOf_size, List.length_append]; omega
  have HPr : Hid (∀ w, Calls Try.prog 14 #[.string (strOf (a ++ (writeJ t ++ b)))] w fun e w' => (∃ (u1 : Int) (u2 : ByteArray) (u3 : Option Addr) (u4 u5 : Nat) (u6 : Option Addr) (u7 u8 : Nat), e = .returned (.tuple #[.agg #[.int .u8 u1, .string u2, .slice u3 u4 u5, .slice u6 u7 u8], .int .i64 0])) ∧ Below w.heap.size w w') := by
    intro w
    refine (rparse_any (strOf (a ++ (writeJ t ++ b))) w (by omega)).mono fun e w' h => ⟨?_, h.2⟩
    have h1 := h.1
    rw [strOf_list] at h1
    unfold pOK' at k8
    cases hp : parseJ (a ++ (writeJ t ++ b)) with
    | error c => rw [hp] at k8; cases k8
    | ok n =>
      rw [hp] at h1
      obtain ⟨u1, u2, u3, u4, e1, e2⟩ := h1
      obtain ⟨v1, v2, v3, v4, v5, v6, v7, v8, rfl, rfl, rfl, rfl⟩ := node_shape e2
      exact ⟨v1, v2, v3, v4, v5, v6, v7, v8, e1⟩
  have HTk : ∀ (l : List UInt8) (tk : List Tok), l.length ≤ 1000 → toks l = some tk → ∀ w, Calls Try.prog 19 #[.string (strOf l)] w fun e w' => (∃ (ao : Option Addr) (cap : Nat), e = .returned (.tuple #[.slice ao tk.length cap, .int .i64 0]) ∧ TokAt w' w'.heap.size ao tk) ∧ Below w.heap.size w w' := by
    intro l tk hl htk w
    have h := rtokens_any (strOf l) w (by rw [strOf_size]; omega)
    rw [strOf_list, htk] at h
    refine h.mono fun e w' h => ⟨?_, h.2⟩
    obtain ⟨v, e1, e2⟩ := h.1
    obtain ⟨ao, cap, rfl, e3⟩ := tok_row e2
    exact ⟨ao, cap, e1, e3⟩
  have HTl := Lib.hid (HTk _ _ (by rw [strOf_size] at sL; exact sL) k2)
  have HTm := Lib.hid (HTk _ _ (by rw [strOf_size] at sM; exact sM) k1)
  have hn1 := toks_len k1
  have hal : (strOf a).size = a.length := strOf_size a
  obtain ⟨Lr, hLr⟩ : ∃ Lr, ts ++ ⟨34, T2, f, t2⟩ :: A2 = Lr := ⟨_, rfl⟩
  obtain ⟨Mr, hMr⟩ : ∃ Mr, ts ++ ⟨34, T1, f, t1⟩ :: A1 = Mr := ⟨_, rfl⟩
  have hlm : Lr.length = Mr.length := by
    have := congrArg List.length k3
    rw [List.length_map, List.length_map] at this
    rw [← hLr, ← hMr]; simp; omega
  rw [hMr, List.length_append] at hn1
  rw [hLr] at HTl
  rw [hMr] at HTm
  have HLM := Lib.hid (And.intro hLr hMr)
  have hmn : Mr.length ≤ 1000 := by omega
  have hgl : (a ++ (writeJ t ++ b)).length ≤ 1000 := by rw [strOf_size] at sL; exact sL
  have HTX : Hid (T2.length ≤ 4000) := by
    have := toks_bd (i := ts.length) (t := ⟨34, T2, f, t2⟩) k2 (by rw [List.getElem?_append_right (Nat.le_refl _), Nat.sub_self]; rfl)
    show _ ≤ _
    have h2 := this.2
    dsimp only at h2
    omega
  have HK := Lib.hid (And.intro k3 (And.intro k4 k5))
  have hf2 : f ≤ (strOf a).size := by omega
  have ht2 : (strOf a).size ≤ t2 := by omega
  clear hJ HTk k1 k2 k3 k4 k5 k6 k7 k8 hLr hMr hwl hn1 hal ht ht0
  generalize strOf (a ++ (writeJ t ++ b)) = SL at *
  generalize strOf (a ++ b) = SM at *
  generalize strOf (a ++ writeJ t) = AW at *
  generalize strOf (writeJ t) = W at *
  clear ha hb
  generalize strOf a = A at *
  generalize strOf b = B at *
  generalize strOf t = T at *
  go_enter Try.func5, Try.ntmps5
  go_wp2_with fail
  refine (HFa.out _).mono ?_
  rintro e w1 ⟨rfl, rfl⟩
  go_wp2_with fail
  refine (HFb.out _).mono ?_
  rintro e w1 ⟨rfl, rfl⟩
  go_wp2_with fail
  refine (HFt.out _).mono ?_
  rintro e w1 ⟨rfl, rfl⟩
  go_wp2_with fail
  refine (HR.out _).mono ?_
  rintro e w2 ⟨rfl, b2⟩
  have HX2 := Lib.hid (Blk.new w2 25 #[.int .i64 x1, .string (strOf x2), .string (strOf x3)])
  have HB2 := Lib.hid (b2.alloc b2.size (.cells #[.int .i64 x1, .string (strOf x2), .string (strOf x3)] 25))
  clear b2
  go_upto_region 3 with fail
  generalize hBB : w2.heap.size = B1 at *
  generalize hW : w2.alloc (.cells #[.int .i64 x1, .string (strOf x2), .string (strOf x3)] 25) = W3 at *
  clear hW hBB
  have c0 := HX2.out.cell 0
  have c1 := HX2.out.cell 1
  have c2 := HX2.out.cell 2
  go_wp2_with fail
  refine (HR2.out _).mono ?_
  rintro e w4 ⟨rfl, b4⟩
  have HX4 := Lib.hid ((Blk.below HX2.out b4 (Blk.lt HX2.out)).alloc (.cells #[.int .i64 z1, .string (strOf z2), .string (strOf z3)] 25))
  have HY4 := Lib.hid (Blk.new w4 25 #[.int .i64 z1, .string (strOf z2), .string (strOf z3)])
  have HB4 := Lib.hid ((HB2.out.trans (b4.mono HB2.out.size)).alloc (HB2.out.trans (b4.mono HB2.out.size)).size (.cells #[.int .i64 z1, .string (strOf z2), .string (strOf z3)] 25))
  clear b4 HX2 HB2 c0 c1 c2
  go_upto_region 4 with fail
  generalize hBB : w4.heap.size = B2 at *
  generalize hW : w4.alloc (.cells #[.int .i64 z1, .string (strOf z2), .string (strOf z3)] 25) = W5 at *
  clear hW hBB
  have c0 := HX4.out.cell 0
  have c1 := HX4.out.cell 1
  have c2 := HX4.out.cell 2
  simp only [Bool.and_eq_true] at hgo
  obtain ⟨rfl, rfl, rfl, rfl, rfl, rfl⟩ := hgo
  go_wp2_with fail
  refine (HH.out _).mono ?_
  rintro e w6 ⟨rfl, b6⟩
  have HY6 := Lib.hid (Blk.below HY4.out b6 (Blk.lt HY4.out))
  have HB6 := Lib.hid (HB4.out.trans (b6.mono HB4.out.size))
  clear b6 HX4 HY4 HB4 c0 c1 c2
  have c0 := HY6.out.cell 0
  have c1 := HY6.out.cell 1
  have c2 := HY6.out.cell 2
  go_wp2_with fail
  refine (HE.out _).mono ?_
  rintro e w7 ⟨rfl, b7⟩
  have HB7 := Lib.hid (HB6.out.trans (b7.mono HB6.out.size))
  clear b7 HY6 HB6 c0 c1 c2
  go_wp2_with fail
  refine (HIa.out _).mono ?_
  rintro e w8 ⟨rfl, b8⟩
  have HB8 := Lib.hid (HB7.out.trans (b8.mono HB7.out.size))
  clear b8 HB7
  go_wp2_with fail
  refine (HIb.out _).mono ?_
  rintro e w9 ⟨rfl, b9⟩
  have HB9 := Lib.hid (HB8.out.trans (b9.mono HB8.out.size))
  clear b9 HB8
  go_wp2_with fail
  refine (HW.out _).mono ?_
  rintro e w10 ⟨rfl, b10⟩
  have HB10 := Lib.hid (HB9.out.trans (b10.mono HB9.out.size))
  clear b10 HB9
  go_wp2_with fail
  refine (HPr.out _).mono ?_
  rintro e w11 ⟨⟨u1, u2, u3, u4, u5, u6, u7, u8, rfl⟩, b11⟩
  have HB11 := Lib.hid ((HB10.out.trans (b11.mono HB10.out.size)).alloc (HB10.out.trans (b11.mono HB10.out.size)).size (.cells #[.int .u8 u1, .string u2, .slice u3 u4 u5, .slice u6 u7 u8] 39))
  clear b11 HB10
  go_upto_region 7 with fail
  generalize w11.alloc (.cells #[.int .u8 u1, .string u2, .slice u3 u4 u5, .slice u6 u7 u8] 39) = W12 at *
  go_wp2_with fail
  refine (HW.out _).mono ?_
  rintro e w13 ⟨rfl, b13⟩
  have HB13 := Lib.hid (HB11.out.trans (b13.mono HB11.out.size))
  clear b13 HB11
  go_wp2_with fail
  refine (HTl.out _).mono ?_
  rintro e w14 ⟨⟨al, cl, rfl, hTl⟩, b14⟩
  have HB14 := Lib.hid (HB13.out.trans (b14.mono HB13.out.size))
  have HL14 := Lib.hid hTl
  clear b14 HB13 hTl
  go_wp2_with fail
  refine (HTm.out _).mono ?_
  rintro e w15 ⟨⟨am, cm, rfl, hTm⟩, b15⟩
  have HB15 := Lib.hid (HB14.out.trans (b15.mono HB14.out.size))
  have HL15 := Lib.hid (HL14.out.below b15 (Nat.le_refl _))
  have HM15 := Lib.hid hTm
  have s15 := b15.size
  clear b15 HB14 HL14 hTm
  have hlm2 : ((Lr.length : Int) == (Mr.length : Int)) = true := by rw [hlm]; simp
  go_wp2_with fail
  refine (HWh.out _).mono ?_
  rintro e w16 ⟨rfl, b16⟩
  have HB16 := Lib.hid (HB15.out.trans (b16.mono HB15.out.size))
  have HL16 := Lib.hid ((HL15.out.below b16 s15).wider (Nat.le_trans s15 b16.size))
  have HM16 := Lib.hid ((HM15.out.below b16 (Nat.le_refl _)).wider b16.size)
  clear b16 HB15 HL15 HM15 s15
  have hMp : ts.length < Mr.length := by rw [← HLM.out.2]; simp
  obtain ⟨J, hJ⟩ : ∃ J, joined (runes t) = J := ⟨_, rfl⟩
  rw [hJ] at HK
  have HKb := Lib.hid HK.out
  have HJn : Hid ((strOf J).size = J.length) := strOf_size J
  go_upto_region 14 with fail
  clear hJ HK HFa HFb HFt HR HR2 HH HE HIa HIb HW HPr HTl HTm HWh hlm2 hJ1 hJ2 hJ3
  have HMp := Lib.hid hMp
  clear hMp
  obtain ⟨SJ, hSJ⟩ : ∃ SJ, strOf J = SJ := ⟨_, rfl⟩
  rw [hSJ] at HJn ⊢
  go_loopw [18, 19] (fun z y wr => ∃ i n : Nat, y = .int .i64 i ∧ z = .int .i64 n ∧ i ≤ Mr.length ∧ (ts.length < i → J ≠ [] → n = 1) ∧ ((i ≤ ts.length ∨ J = []) → n = 0) ∧ n ≤ 1 ∧ Below w16.heap.size w16 wr) (fun _ y _ => Mr.length - (intOf y).toNat)
  case atStart => exact ⟨0, 0, rfl, rfl, Nat.zero_le _, fun h => absurd h (by omega), fun _ => rfl, by omega, Below.refl _ _⟩
  case round =>
    obtain ⟨i, n, rfl, rfl, hi, hn1, hn2, hn3, hb⟩ := hrel
    have HB := Lib.hid hb
    have HN1 := Lib.hid hn1
    have HN2 := Lib.hid hn2
    clear hb hn1 hn2
    by_cases hlt : i < Mr.length
    · obtain ⟨tl, tm, hl, hm, hk, hne, heq⟩ := rows_alike (y := ⟨34, T2, f, t2⟩) (x := ⟨34, T1, f, t1⟩) HLM.out.1 HLM.out.2 rfl HKb.out.1 i hlt
      obtain ⟨g1, rfl, c0, c1, c2, c3⟩ := (HL16.out.below HB.out (Nat.le_refl _)).fourH hl
      obtain ⟨g2, rfl, d0, d1, d2, d3⟩ := (HM16.out.below HB.out (Nat.le_refl _)).fourH hm
      have hlt2 : i < Lr.length := by omega
      obtain ⟨lk, lx, lf, lt⟩ := tl
      obtain ⟨mk, mx, mf, mt⟩ := tm
      dsimp only at *
      subst hk
      have q1 : ((lk : Int) != (lk : Int)) = false := by simp
      have K1 : wr.drew.cell? ⟨g1, i * 4, none⟩ = some (.int .u8 lk) ∧ wr.drew.cell? ⟨g1, i * 4 + 1, none⟩ = some (.string (strOf lx)) ∧ wr.drew.cell? ⟨g1, i * 4 + 2, none⟩ = some (.int .i64 lf) ∧ wr.drew.cell? ⟨g1, i * 4 + 3, none⟩ = some (.int .i64 lt) ∧ wr.drew.cell? ⟨g2, i * 4, none⟩ = some (.int .u8 lk) ∧ wr.drew.cell? ⟨g2, i * 4 + 1, none⟩ = some (.string (strOf mx)) := ⟨c0, c1, c2, c3, d0, d1⟩
      have HK1 := Lib.hid K1
      have HHeq := Lib.hid heq
      have HHne := Lib.hid hne
      clear hl hm c0 c1 c2 c3 d0 d1 d2 d3 hne heq
      by_cases hx : lx = mx
      · have q2 : ((strOf lx).toList == (strOf mx).toList) = true := by rw [hx]; simp
        have HHx := Lib.hid hx
        clear hx
        generalize hX : strOf lx = X at *
        generalize hY : strOf mx = Y at *
        go_wp2_with fail
        go_region_held3 (fun w' => w'.cell? ⟨g1, i * 4, none⟩ = some (.int .u8 lk) ∧ w'.cell? ⟨g1, i * 4 + 1, none⟩ = some (.string X) ∧ w'.cell? ⟨g1, i * 4 + 2, none⟩ = some (.int .i64 lf) ∧ w'.cell? ⟨g1, i * 4 + 3, none⟩ = some (.int .i64 lt) ∧ w'.cell? ⟨g2, i * 4, none⟩ = some (.int .u8 lk) ∧ w'.cell? ⟨g2, i * 4 + 1, none⟩ = some (.string Y)) (with_reducible exact K1) (fail)
        go_wp2_with fail
        have K2 := K1
        go_region_held3 (fun w' => w'.cell? ⟨g1, i * 4, none⟩ = some (.int .u8 lk) ∧ w'.cell? ⟨g1, i * 4 + 1, none⟩ = some (.string X) ∧ w'.cell? ⟨g1, i * 4 + 2, none⟩ = some (.int .i64 lf) ∧ w'.cell? ⟨g1, i * 4 + 3, none⟩ = some (.int .i64 lt) ∧ w'.cell? ⟨g2, i * 4, none⟩ = some (.int .u8 lk) ∧ w'.cell? ⟨g2, i * 4 + 1, none⟩ = some (.string Y)) (first | (with_reducible exact K1) | (exact K1)) (fail)
        go_wp2_with fail
        go_roundw
        case rel =>
          refine ⟨i + 1, n, by go_num, rfl, hlt, fun h1 h2 => ?_, fun h1 => ?_, hn3, below_drew' (below_drew' HB.out)⟩
          · rcases Nat.lt_or_ge ts.length i with h | h
            · exact HN1.out h h2
            · exfalso
              obtain ⟨e1, e2⟩ := HHeq.out (by omega)
              have e3 := HHx.out
              have e4 : T2 = T1 := by
                have h5 := congrArg Tok.text e1
                have h6 := congrArg Tok.text e2
                dsimp only at h5 h6
                rw [← h5, ← h6]; exact e3
              have e5 := HKb.out.2.1
              rw [e4] at e5
              exact h2 (List.length_eq_zero_iff.1 (by omega))
          · exact HN2.out (h1.imp (fun h => by omega) id)
        case measure => simp [intOf]; omega
      · have hit : i = ts.length := by
          by_cases h : i = ts.length
          · exact h
          · exact absurd (HHne.out h) hx
        obtain ⟨e1, e2⟩ := HHeq.out hit
        cases e1
        cases e2
        have hJ0 : J ≠ [] := fun h => hx (HKb.out.2.2 h)
        have hn0 : n = 0 := HN2.out (.inl (by omega))
        subst hn0
        have hsz : T2.length = T1.length + J.length := HKb.out.2.1
        have q2 : ((strOf T2).toList == (strOf T1).toList) = false := by
          rw [ByteArray.toList_eq, ByteArray.toList_eq, strOf_list, strOf_list]
          simp [hx]
        have z1 : (strOf T2).size = T2.length := strOf_size T2
        have z2 : (strOf T1).size = T1.length := strOf_size T1
        have z3 := HJn.out
        have z4 := HTX.out
        have K1 : wr.drew.cell? ⟨g1, i * 4, none⟩ = some (.int .u8 34) ∧ wr.drew.cell? ⟨g1, i * 4 + 1, none⟩ = some (.string (strOf T2)) ∧ wr.drew.cell? ⟨g1, i * 4 + 2, none⟩ = some (.int .i64 f) ∧ wr.drew.cell? ⟨g1, i * 4 + 3, none⟩ = some (.int .i64 t2) ∧ wr.drew.cell? ⟨g2, i * 4, none⟩ = some (.int .u8 34) ∧ wr.drew.cell? ⟨g2, i * 4 + 1, none⟩ = some (.string (strOf T1)) := HK1.out
        have HJ0 := Lib.hid hJ0
        have HIT := Lib.hid hit
        clear hx hJ0 hit
        generalize hX : strOf T2 = X at *
        generalize hY : strOf T1 = Y at *
        clear hX hY
        have q3 : IntKind.i64.wrap ((Y.size : Int) + (SJ.size : Int)) = (X.size : Int) := by rw [IntWalk.i64_in _ (by omega)]; omega
        have q4 : ((X.size : Int) != (X.size : Int)) = false := by simp
        have q5 : decide (A.size < f) = false := decide_eq_false (by omega)
        have q6 : decide (t2 < A.size) = false := decide_eq_false (by omega)
        clear z1 z2 z3 z4 hsz
        go_wp2_with fail
        go_region_held3 (fun w' => w'.cell? ⟨g1, i * 4, none⟩ = some (.int .u8 34) ∧ w'.cell? ⟨g1, i * 4 + 1, none⟩ = some (.string X) ∧ w'.cell? ⟨g1, i * 4 + 2, none⟩ = some (.int .i64 f) ∧ w'.cell? ⟨g1, i * 4 + 3, none⟩ = some (.int .i64 t2) ∧ w'.cell? ⟨g2, i * 4, none⟩ = some (.int .u8 34) ∧ w'.cell? ⟨g2, i * 4 + 1, none⟩ = some (.string Y)) (with_reducible exact K1) (fail)
        go_wp2_with fail
        go_region_held3 (fun w' => w'.cell? ⟨g1, i * 4, none⟩ = some (.int .u8 34) ∧ w'.cell? ⟨g1, i * 4 + 1, none⟩ = some (.string X) ∧ w'.cell? ⟨g1, i * 4 + 2, none⟩ = some (.int .i64 f) ∧ w'.cell? ⟨g1, i * 4 + 3, none⟩ = some (.int .i64 t2) ∧ w'.cell? ⟨g2, i * 4, none⟩ = some (.int .u8 34) ∧ w'.cell? ⟨g2, i * 4 + 1, none⟩ = some (.string Y)) (exact K1) (fail)
        go_wp2_with fail
        go_region_held3 (fun w' => w'.cell? ⟨g1, i * 4, none⟩ = some (.int .u8 34) ∧ w'.cell? ⟨g1, i * 4 + 1, none⟩ = some (.string X) ∧ w'.cell? ⟨g1, i * 4 + 2, none⟩ = some (.int .i64 f) ∧ w'.cell? ⟨g1, i * 4 + 3, none⟩ = some (.int .i64 t2) ∧ w'.cell? ⟨g2, i * 4, none⟩ = some (.int .u8 34) ∧ w'.cell? ⟨g2, i * 4 + 1, none⟩ = some (.string Y)) (exact K1) (fail)
        go_wp2_with fail
        go_roundw
        case rel => exact ⟨i + 1, 1, by go_num, rfl, hlt, fun _ _ => rfl, fun h => by (have h1 := HJ0.out; have h2 := HIT.out; rcases h with h | h; omega; exact absurd h h1), Nat.le_refl _, below_drew' (below_drew' (below_drew' HB.out))⟩
        case measure => simp [intOf]; omega
    · have q9 : ((n : Int) == min (1 : Int) (SJ.size : Int)) = true := by
        have h1 := HJn.out
        by_cases hJ0 : J = []
        · have := HN2.out (.inr hJ0)
          subst hJ0
          rw [show n = 0 from this, show SJ.size = 0 from h1]; rfl
        · have h2 := HN1.out (by have := HMp.out; omega) hJ0
          have h3 := List.length_pos_iff.2 hJ0
          rw [show n = 1 from h2, show min (1 : Int) (SJ.size : Int) = 1 by omega]; rfl
      go_wp2_with fail
      refine (HA.out _).mono ?_
      rintro e w17 ⟨rfl, b17⟩
      go_wp2_with fail
      go_ret
      exact ⟨rfl, (HB16.out.trans (HB.out.mono HB16.out.size)).trans (b17.mono (Nat.le_trans HB16.out.size HB.out.size))⟩
theorem law_holds (a b t : ByteArray) (w : World) (h1 : a.size ≤ 9223372036854775807) (h2 : b.size ≤ 9223372036854775807) (h3 : t.size ≤ 9223372036854775807) :
    Calls Try.prog 5 #[.string a, .string b, .string t] w fun e w' => e = .returned (.bool true) ∧ Below w.heap.size w w' := by
  have l1 := sz_len a
  have l2 := sz_len b
  have l3 := sz_len t
  cases hg : goesH (a.data.toList.take 120) (b.data.toList.take 120) with
  | true =>
    have h := holds_goes a.data.toList b.data.toList t.data.toList w (by omega) (by omega) (by omega) hg
    rw [strOf_data, strOf_data, strOf_data] at h
    exact h
  | false =>
    have h := holds_none a.data.toList b.data.toList t.data.toList w (by omega) (by omega) (by omega) hg
    rw [strOf_data, strOf_data, strOf_data] at h
    exact h
end Go.Proofs.Ytmfldffbafamnaa
