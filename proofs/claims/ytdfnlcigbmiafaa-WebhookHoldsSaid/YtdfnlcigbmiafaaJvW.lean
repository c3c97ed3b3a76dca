/- Plain: tokens of a text behind another; a written string is one token. -/
import Derived.Test.YtdfnlcigbmiafaaJsSpec
import Derived.Test.YtdfnlcigbmiafaaJtG4
import Derived.Test.YtdfnlcigbmiafaaJsW
import Derived.Test.YtdfnlcigbmiafaaUtfG
import Derived.Test.YtdfnlcigbmiafaaUtfM
import Derived.Test.YtdfnlcigbmiafaaQuoF
import Derived.Test.YtdfnlcigbmiafaaQuoG
import Derived.Lib.Index
import Derived.Lib.Strings
namespace Go.Proofs.Ytdfnlcigbmiafaa
set_option linter.unusedVariables false
set_option linter.unusedSimpArgs false
def shiftT (d : Nat) (t : Tok) : Tok := ⟨t.kind, t.text, d + t.frm, d + t.to⟩
theorem digE_drop (l : List UInt8) (d k : Nat) : digE l (d + k) = d + digE (l.drop d) k := by
  unfold digE; rw [List.drop_drop]; omega
theorem numStart_drop (l : List UInt8) (d k : Nat) : numStart l (d + k) = d + numStart (l.drop d) k := by
  unfold numStart; rw [bt_drop]; split <;> omega
theorem numInt_drop (l : List UInt8) (d k : Nat) : numInt l (d + k) = d + numInt (l.drop d) k := by
  unfold numInt; rw [bt_drop, digE_drop]; split <;> omega
theorem numFrac_drop (l : List UInt8) (d e : Nat) : numFrac l (d + e) = d + numFrac (l.drop d) e := by
  unfold numFrac
  rw [bt_drop, Nat.add_assoc, digE_drop]
  by_cases h : bt l (d + e) = 46 ∧ e + 1 < digE (l.drop d) (e + 1)
  · rw [if_pos h, if_pos ⟨h.1, by omega⟩]
  · rw [if_neg h, if_neg (fun x => h ⟨x.1, by have := x.2; omega⟩)]
theorem expStart_drop (l : List UInt8) (d e : Nat) : expStart l (d + e) = d + expStart (l.drop d) e := by
  unfold expStart; rw [bt_drop]; split <;> omega
theorem numExp_drop (l : List UInt8) (d e : Nat) : numExp l (d + e) = d + numExp (l.drop d) e := by
  unfold numExp
  rw [bt_drop, Nat.add_assoc, expStart_drop, digE_drop]
  by_cases h : bt l (d + e) = 101 ∨ bt l (d + e) = 69
  · rw [if_pos h, if_pos h]
    by_cases h2 : expStart (l.drop d) (e + 1) < digE (l.drop d) (expStart (l.drop d) (e + 1))
    · rw [if_pos h2, if_pos (by omega)]
    · rw [if_neg h2, if_neg (by omega)]
  · rw [if_neg h, if_neg h]
theorem numE_drop (l : List UInt8) (d k : Nat) : numE l (d + k) = (numE (l.drop d) k).map (d + ·) := by
  unfold numE
  rw [numStart_drop, digE_drop, numInt_drop, numFrac_drop, numExp_drop]
  by_cases h : digE (l.drop d) (numStart (l.drop d) k) = numStart (l.drop d) k
  · rw [if_pos h, if_pos (by omega)]; rfl
  · rw [if_neg h, if_neg (by omega)]; rfl
theorem atL_drop (l p : List UInt8) (d k : Nat) (h : d ≤ l.length) : atL l p (d + k) = atL (l.drop d) p k := by
  unfold atL
  rw [List.drop_drop, List.length_drop]
  congr 1
  exact decide_eq_decide.2 (by omega)
theorem oneT_drop (l : List UInt8) (d k : Nat) (h : d ≤ l.length) : oneT l (d + k) = (oneT (l.drop d) k).map (shiftT d) := by
  unfold oneT
  rw [bt_drop, atL_drop _ _ _ _ h, atL_drop _ _ _ _ h, atL_drop _ _ _ _ h, numE_drop, List.drop_drop, List.drop_drop, Nat.add_assoc d k 1]
  split
  · rfl
  split
  · cases strJ (l.drop (d + (k + 1))) with
    | none => rfl
    | some p => obtain ⟨t, n⟩ := p; simp only [Option.map_some, shiftT]; rw [Nat.add_assoc d]
  split
  · rfl
  split
  · rfl
  split
  · rfl
  cases numE (l.drop d) k with
  | none => rfl
  | some e => simp only [Option.map_some, shiftT]; rw [Nat.add_sub_add_left]
theorem toksAt_drop (l : List UInt8) (d : Nat) (h : d ≤ l.length) : ∀ (m k : Nat), l.length ≤ d + k + m → toksAt l (d + k) = (toksAt (l.drop d) k).map (List.map (shiftT d))
  | 0, k, hm => by rw [toksAt_end (by omega), toksAt_end (by rw [List.length_drop]; omega)]; rfl
  | m + 1, k, hm => by
    by_cases h1 : l.length ≤ d + k
    · rw [toksAt_end h1, toksAt_end (by rw [List.length_drop]; omega)]; rfl
    have h2 : k < (l.drop d).length := by rw [List.length_drop]; omega
    rw [toksAt_step (by omega), toksAt_step h2, bt_drop, oneT_drop l d k h]
    split
    · rw [Nat.add_assoc]; exact toksAt_drop l d h m (k + 1) (by omega)
    · cases ho : oneT (l.drop d) k with
      | none => rfl
      | some t =>
        have hb := oneT_bd h2 ho
        rw [List.length_drop] at hb
        simp only [Option.map_some]
        have := toksAt_drop l d h m t.to (by omega)
        rw [show (shiftT d t).to = d + t.to from rfl, this]
        cases toksAt (l.drop d) t.to with
        | none => rfl
        | some ts => rfl
theorem toksAt_zero (l : List UInt8) (d : Nat) (h : d ≤ l.length) : toksAt l d = (toks (l.drop d)).map (List.map (shiftT d)) := toksAt_drop l d h l.length 0 (by omega)
theorem toks_step {l : List UInt8} (h : l ≠ []) : toks l = if blankK (bt l 0) then toks (l.drop 1) |>.map (List.map (shiftT 1)) else
    match oneT l 0 with
    | none => none
    | some t => ((toks (l.drop t.to)).map (List.map (shiftT t.to))).map (t :: ·) := by
  have hl := List.length_pos_iff.2 h
  unfold toks
  rw [toksAt_step hl]
  split
  · exact toksAt_zero l 1 hl
  · cases ho : oneT l 0 with
    | none => rfl
    | some t =>
      have hb := oneT_bd hl ho
      dsimp only
      rw [toksAt_zero l t.to hb.2.2.1]; rfl
/-- The first byte of what a rune is written as ends no string. -/
theorem wrJ_head {n : Nat} (hr : isRune (n : Int)) (t : List UInt8) : bt (wrJ n ++ t) 0 ≠ 34 := by
  by_cases h1 : letN n = 0
  · by_cases h2 : longN n
    · rw [wrJ_long h1 h2]; exact (by decide : (92 : Nat) ≠ 34)
    · rw [wrJ_self h1 h2]
      have hs := letN_special h1
      have hh := enc_head hr t
      omega
  · rw [wrJ_short h1]; exact (by decide : (92 : Nat) ≠ 34)
theorem str_wr : ∀ (rs : List Nat) (t : List UInt8), (∀ r ∈ rs, isRune (r : Int)) → strJ (rs.flatMap wrJ ++ 34 :: t) = some (joined rs, (rs.flatMap wrJ).length + 1)
  | [], t, _ => by
    rw [strJ_step (by simp), if_pos (by rfl)]; rfl
  | r :: rs, t, h => by
    have hr := h r (by simp)
    have hl := wrJ_length r
    rw [List.flatMap_cons, List.append_assoc]
    have h0 : wrJ r ++ (rs.flatMap wrJ ++ 34 :: t) ≠ [] := by
      intro e
      have := congrArg List.length e
      rw [List.length_append, List.length_nil] at this; omega
    rw [strJ_step h0, if_neg (wrJ_head hr _), oneJ_wr hr]
    dsimp only
    rw [List.drop_left, str_wr rs t (fun x hx => h x (by simp [hx]))]
    simp only [Option.map_some, List.length_append, Option.some.injEq, Prod.mk.injEq]
    exact ⟨rfl, by omega⟩
/-- A written string is one token. -/
theorem str_write (u t : List UInt8) : strJ (writeJ u ++ 34 :: t) = some (joined (runes u), (writeJ u).length + 1) := str_wr _ t (runes_rune _ u (Nat.le_refl _))
theorem toks_str {u : List UInt8} (hu : joined (runes u) = u) (t : List UInt8) : toks (34 :: (writeJ u ++ 34 :: t)) = ((toks t).map (List.map (shiftT ((writeJ u).length + 2)))).map (⟨34, u, 0, (writeJ u).length + 2⟩ :: ·) := by
  rw [toks_step (by simp), if_neg (show ¬ blankK (bt (34 :: (writeJ u ++ 34 :: t)) 0) from (by decide : ¬ blankK 34))]
  have h1 : oneT (34 :: (writeJ u ++ 34 :: t)) 0 = some ⟨34, u, 0, (writeJ u).length + 2⟩ := by
    unfold oneT
    rw [if_neg (show ¬ markK (bt (34 :: (writeJ u ++ 34 :: t)) 0) from (by decide : ¬ markK 34)), if_pos (show bt (34 :: (writeJ u ++ 34 :: t)) 0 = 34 from rfl)]
    rw [show (34 :: (writeJ u ++ 34 :: t)).drop (0 + 1) = writeJ u ++ 34 :: t from rfl, str_write, hu]
    dsimp only
    rw [show 0 + 1 + ((writeJ u).length + 1) = (writeJ u).length + 2 by omega]
  rw [h1]
  dsimp only
  rw [show (34 :: (writeJ u ++ 34 :: t)).drop ((writeJ u).length + 2) = t by
    rw [show (writeJ u).length + 2 = ((writeJ u).length + 1) + 1 by omega, List.drop_succ_cons, ← List.drop_drop, List.drop_left]; rfl]
/-- A mark is one token. -/
theorem toks_mark {c : UInt8} (hc : markK c.toNat) (t : List UInt8) : toks (c :: t) = ((toks t).map (List.map (shiftT 1))).map (⟨c.toNat, [], 0, 1⟩ :: ·) := by
  have hb : ¬ blankK c.toNat := by unfold markK at hc; unfold blankK; omega
  rw [toks_step (by simp)]
  rw [bt_c0, if_neg hb]
  have h1 : oneT (c :: t) 0 = some ⟨c.toNat, [], 0, 1⟩ := by
    unfold oneT; rw [bt_c0, if_pos hc]
  rw [h1]; rfl
/-- What the value of tokens depends on: their kinds and texts alone. -/
theorem shift_get (d : Nat) (ts : List Tok) (k : Nat) : (ts.map (shiftT d))[k]? = (ts[k]?).map (shiftT d) := by rw [List.getElem?_map]
end Go.Proofs.Ytdfnlcigbmiafaa

/- Plain: a value among other tokens is the same value (chapters 10, 37). -/
namespace Go.Proofs.Ytdfnlcigbmiafaa
set_option linter.unusedVariables false
set_option linter.unusedSimpArgs false
theorem get_ext {pre ts post : List Tok} {j : Nat} (h : j < ts.length) : (pre ++ ts ++ post)[pre.length + j]? = ts[j]? := by
  rw [List.append_assoc, List.getElem?_append_right (by omega), Nat.add_sub_cancel_left, List.getElem?_append_left h]
theorem isK_ext {pre ts post : List Tok} {j c : Nat} (h : j < ts.length) : isK (pre ++ ts ++ post) (pre.length + j) c = isK ts j c := by
  unfold isK; rw [get_ext h]
theorem txt_ext {pre ts post : List Tok} {j : Nat} (h : j < ts.length) : txt (pre ++ ts ++ post) (pre.length + j) = txt ts j := by
  unfold txt; rw [get_ext h]
theorem elems_more {val : Nat → Option (Node × Nat)} {ts : List Tok} {map : Bool} {E : Nat} : ∀ (G m k : Nat) (ks : List (List UInt8)) (ns : List Node) (out : List (List UInt8) × List Node × Nat), elems val ts map E G k ks ns = some out → elems val ts map E (G + m) k ks ns = some out
  | 0, m, k, ks, ns, out, h => by cases h
  | G + 1, m, k, ks, ns, out, h => by
    rw [show G + 1 + m = (G + m) + 1 by omega]
    unfold elems at h ⊢
    split at h
    · cases h
    · rename_i h1
      rw [if_neg h1]
      split at h
      · cases h
      · rename_i n k2 hv
        split at h
        · rename_i h2; rw [if_pos h2]; exact h
        · rename_i h2
          rw [if_neg h2]
          split at h
          · rename_i h3; rw [if_pos h3]; exact elems_more G m _ _ _ _ h
          · cases h
theorem elems_ext {val val' : Nat → Option (Node × Nat)} {pre ts post : List Tok} {map : Bool} {E : Nat} (hv : ∀ k n k2, val k = some (n, k2) → k < k2 ∧ k2 ≤ ts.length ∧ k < ts.length ∧ val' (pre.length + k) = some (n, pre.length + k2)) :
    ∀ (G k : Nat) (ks : List (List UInt8)) (ns : List Node) (ks' : List (List UInt8)) (ns' : List Node) (k' : Nat), elems val ts map E G k ks ns = some (ks', ns', k') → elems val' (pre ++ ts ++ post) map E G (pre.length + k) ks ns = some (ks', ns', pre.length + k')
  | 0, k, ks, ns, ks', ns', k', h => by cases h
  | G + 1, k, ks, ns, ks', ns', k', h => by
    unfold elems at h ⊢
    by_cases hm : map = true ∧ ¬ (isK ts k 34 = true ∧ isK ts (k + 1) 58 = true)
    · rw [if_pos hm] at h; cases h
    rw [if_neg hm] at h
    have hkey : map = true → isK ts k 34 = true ∧ isK ts (k + 1) 58 = true := fun h1 => by
      by_cases h2 : isK ts k 34 = true ∧ isK ts (k + 1) 58 = true
      · exact h2
      · exact absurd ⟨h1, h2⟩ hm
    have hm2 : ¬ (map = true ∧ ¬ (isK (pre ++ ts ++ post) (pre.length + k) 34 = true ∧ isK (pre ++ ts ++ post) (pre.length + k + 1) 58 = true)) := fun x => x.2 (by
      obtain ⟨h1, h2⟩ := hkey x.1
      exact ⟨by rw [isK_ext (isK_lt h1)]; exact h1, by rw [Nat.add_assoc, isK_ext (isK_lt h2)]; exact h2⟩)
    rw [if_neg hm2]
    obtain ⟨p, hp⟩ : ∃ p, (if map then k + 2 else k) = p := ⟨_, rfl⟩
    have hp2 : (if map then pre.length + k + 2 else pre.length + k) = pre.length + p := by rw [← hp]; cases map <;> simp <;> omega
    rw [hp] at h
    rw [hp2]
    cases hval : val p with
    | none => rw [hval] at h; cases h
    | some r =>
      obtain ⟨n, k2⟩ := r
      rw [hval] at h
      obtain ⟨b1, b2, b3, hv'⟩ := hv p n k2 hval
      rw [hv']
      dsimp only at h ⊢
      have htx : (if map then ks ++ [txt (pre ++ ts ++ post) (pre.length + k)] else ks) = (if map then ks ++ [txt ts k] else ks) := by
        cases map
        · rfl
        · rw [if_pos rfl, if_pos rfl, txt_ext (isK_lt (hkey rfl).1)]
      rw [htx]
      by_cases h1 : isK ts k2 E = true
      · rw [if_pos h1] at h
        rw [if_pos (by rw [isK_ext (isK_lt h1)]; exact h1)]
        simp only [Option.some.injEq, Prod.mk.injEq] at h ⊢
        obtain ⟨a1, a2, a3⟩ := h
        exact ⟨a1, a2, by omega⟩
      · rw [if_neg h1] at h
        by_cases h2 : isK ts k2 44 = true
        · rw [if_pos h2] at h
          rw [if_neg (by rw [isK_ext (isK_lt h2)]; exact h1), if_pos (by rw [isK_ext (isK_lt h2)]; exact h2)]
          have := elems_ext (post := post) hv G (k2 + 1) _ _ _ _ _ h
          rw [← Nat.add_assoc] at this
          exact this
        · rw [if_neg h2] at h; cases h
/-- A value among other tokens. -/
theorem val_ext {pre ts post : List Tok} : ∀ (f k : Nat) (n : Node) (k2 : Nat), valI f ts k = some (n, k2) → valI f (pre ++ ts ++ post) (pre.length + k) = some (n, pre.length + k2)
  | 0, k, n, k2, h => by cases h
  | f + 1, k, n, k2, h => by
    have hbd := valI_bd _ _ _ _ _ h
    obtain ⟨t, ht, _⟩ := valI_head h
    have hk := (List.getElem?_eq_some_iff.1 ht).1
    have ht2 : (pre ++ ts ++ post)[pre.length + k]? = some t := by rw [get_ext hk]; exact ht
    rw [valI_at ht] at h
    rw [valI_at ht2]
    by_cases q1 : t.kind = 34 ∨ t.kind = 48 ∨ t.kind = 97
    · rw [if_pos q1] at h ⊢
      simp only [Option.some.injEq, Prod.mk.injEq] at h ⊢
      exact ⟨h.1, by omega⟩
    rw [if_neg q1] at h ⊢
    by_cases q2 : t.kind ≠ 91 ∧ t.kind ≠ 123
    · rw [if_pos q2] at h; cases h
    rw [if_neg q2] at h ⊢
    obtain ⟨E, hE⟩ : ∃ E, (if t.kind = 123 then 125 else 93) = E := ⟨_, rfl⟩
    rw [hE] at h ⊢
    rw [Nat.add_assoc]
    by_cases q3 : isK ts (k + 1) E = true
    · rw [if_pos q3] at h
      rw [if_pos (by rw [isK_ext (isK_lt q3)]; exact q3)]
      simp only [Option.some.injEq, Prod.mk.injEq] at h ⊢
      exact ⟨h.1, by omega⟩
    · rw [if_neg q3] at h
      cases he : elems (fun j => valI f ts j) ts (decide (t.kind = 123)) E ts.length (k + 1) [] [] with
      | none => rw [he] at h; cases h
      | some out =>
        obtain ⟨ks, ns, k3⟩ := out
        rw [he] at h
        obtain ⟨t1, ht1, _⟩ := elems_head he
        have hk1 := (List.getElem?_eq_some_iff.1 ht1).1
        rw [if_neg (by rw [isK_ext hk1]; exact q3)]
        have h2 := elems_ext (val' := fun j => valI f (pre ++ ts ++ post) j) (pre := pre) (post := post) (fun k n k2 hv => ⟨(valI_bd _ _ _ _ _ hv).1, (valI_bd _ _ _ _ _ hv).2, by have := valI_bd _ _ _ _ _ hv; omega, val_ext f k n k2 hv⟩) _ _ _ _ _ _ _ he
        have h3 := elems_more _ (pre.length + post.length) _ _ _ _ h2
        rw [show (pre ++ ts ++ post).length = ts.length + (pre.length + post.length) by simp; omega, h3]
        simp only [Option.some.injEq, Prod.mk.injEq] at h ⊢
        exact ⟨h.1, by omega⟩
/-- Where its tokens stand in the text is no matter. -/
theorem isK_shift (ts : List Tok) (d k c : Nat) (sh : Tok → Tok) (hs : ∀ t, (sh t).kind = t.kind ∧ (sh t).text = t.text) : isK (ts.map sh) k c = isK ts k c ∧ txt (ts.map sh) k = txt ts k := by
  unfold isK txt
  rw [List.getElem?_map]
  cases ts[k]? with
  | none => exact ⟨rfl, rfl⟩
  | some t => exact ⟨by simp [(hs t).1], by simp [(hs t).2]⟩
theorem elems_shift {val : Nat → Option (Node × Nat)} {ts : List Tok} {map : Bool} {E : Nat} (sh : Tok → Tok) (hs : ∀ t, (sh t).kind = t.kind ∧ (sh t).text = t.text) : ∀ (G k : Nat) (ks : List (List UInt8)) (ns : List Node), elems val (ts.map sh) map E G k ks ns = elems val ts map E G k ks ns
  | 0, k, ks, ns => rfl
  | G + 1, k, ks, ns => by
    unfold elems
    rw [(isK_shift ts 0 k 34 sh hs).1, (isK_shift ts 0 (k + 1) 58 sh hs).1, (isK_shift ts 0 k 34 sh hs).2]
    split
    · rfl
    · split
      · rfl
      · rename_i n k2 hv
        rw [(isK_shift ts 0 k2 E sh hs).1, (isK_shift ts 0 k2 44 sh hs).1]
        split
        · rfl
        · split
          · exact elems_shift sh hs G _ _ _
          · rfl
theorem val_shift {ts : List Tok} (sh : Tok → Tok) (hs : ∀ t, (sh t).kind = t.kind ∧ (sh t).text = t.text) : ∀ (f k : Nat), valI f (ts.map sh) k = valI f ts k
  | 0, k => rfl
  | f + 1, k => by
    rcases Nat.lt_or_ge k ts.length with hk | hk
    · have ht : ts[k]? = some ts[k] := List.getElem?_eq_getElem hk
      have ht2 : (ts.map sh)[k]? = some (sh ts[k]) := by rw [List.getElem?_map, ht]; rfl
      rw [valI_at ht, valI_at ht2, (hs ts[k]).1, (hs ts[k]).2, (isK_shift ts 0 (k + 1) _ sh hs).1, List.length_map, elems_shift sh hs]
      have hf : (fun j => valI f (ts.map sh) j) = (fun j => valI f ts j) := funext fun j => val_shift sh hs f j
      rw [hf]
    · rw [valI_out hk, valI_out (by rw [List.length_map]; exact hk)]
end Go.Proofs.Ytdfnlcigbmiafaa

/- Plain: a text's tokens ahead of a bracket (chapters 10, 37). -/
namespace Go.Proofs.Ytdfnlcigbmiafaa
set_option linter.unusedVariables false
set_option linter.unusedSimpArgs false
theorem bt_app {l x : List UInt8} {i : Nat} (h : i < l.length) : bt (l ++ x) i = bt l i := by
  unfold bt
  rw [List.getD_eq_getElem?_getD, List.getD_eq_getElem?_getD, List.getElem?_append_left h]
theorem byteAt_app {l x : List UInt8} {k v : Nat} (h : byteAt l k = some v) : byteAt (l ++ x) k = some v := by
  have hl := byteAt_len h
  unfold byteAt at h ⊢
  rw [bt_app (by omega), bt_app (by omega)]
  split at h
  · rename_i h1
    rw [if_pos ⟨by rw [List.length_append]; omega, h1.2⟩]; exact h
  · cases h
theorem unitAt_app {l x : List UInt8} {k v : Nat} (h : unitAt l k = some v) : unitAt (l ++ x) k = some v := by
  have hl := unitAt_len h
  unfold unitAt at h ⊢
  rw [bt_app (by omega), bt_app (by omega)]
  split at h
  · rename_i h1
    rw [if_pos h1]
    split at h
    · rename_i a b ha hb
      rw [byteAt_app ha, byteAt_app hb]; exact h
    · cases h
  · cases h
theorem escJ_app {l x : List UInt8} {p : Nat × Nat} (h : escJ l = some p) : escJ (l ++ x) = some p := by
  unfold escJ at h ⊢
  split at h
  · rename_i h1
    have h2 : 1 < l.length := bt_pos_lt (fun hz => by rw [hz] at h1; exact h1 (by decide))
    rw [bt_app h2, if_pos h1]; exact h
  · rename_i h1
    split at h
    · cases h
    · rename_i a ha
      have := unitAt_len ha
      rw [bt_app (by omega), if_neg h1, unitAt_app ha]
      dsimp only
      split at h
      · cases h
      · rename_i h3
        rw [if_neg h3]
        split at h
        · rename_i h4
          rw [if_pos h4]
          split at h
          · cases h
          · rename_i b hb
            rw [unitAt_app hb]; exact h
        · rename_i h4
          rw [if_neg h4]; exact h
theorem oneJ_app {l x : List UInt8} {p : Nat × Nat} (h : oneJ l = some p) : oneJ (l ++ x) = some p := by
  unfold oneJ at h
  split at h
  · cases h
  rename_i hne
  have hl : 0 < l.length := List.length_pos_iff.2 hne
  unfold oneJ
  rw [if_neg (by simp [hne]), bt_app hl]
  split at h
  · rename_i h1
    rw [if_pos h1]; exact escJ_app h
  rename_i h1
  rw [if_neg h1]
  split at h
  · cases h
  rename_i h2
  have hn : next (l ++ x) = next l := by
    rcases next_cases hne with h3 | h3
    · exact absurd (.inr (.inr ⟨by rw [h3], by rw [h3]⟩)) h2
    · have h4 : l = enc ((next l).1 : Int) ++ l.drop (next l).2 := by rw [h3.1, List.take_append_drop]
      have h5 := next_enc ((next l).1 : Int) (l.drop (next l).2 ++ x)
      rw [← List.append_assoc, ← h4] at h5
      have h6 : (enc ((next l).1 : Int)).length = (next l).2 := by
        rw [h3.1, List.length_take]; have := (next_bound l).2.2.1; omega
      rw [h5, h3.2, h6]
  rw [hn, if_neg h2]; exact h
theorem strJ_app {x : List UInt8} : ∀ (m : Nat) (l : List UInt8) (t : List UInt8) (n : Nat), l.length ≤ m → strJ l = some (t, n) → strJ (l ++ x) = some (t, n)
  | m, [], t, n, _, h => by rw [strJ_nil] at h; cases h
  | 0, _ :: _, _, _, hl, _ => by simp at hl
  | m + 1, a :: r, t, n, hl, h => by
    have h0 : a :: r ≠ [] := by simp
    rw [strJ_step h0] at h
    rw [strJ_step (by simp), bt_app (by simp)]
    split at h
    · rename_i h1
      rw [if_pos h1]; exact h
    · rename_i h1
      rw [if_neg h1]
      split at h
      · cases h
      · rename_i q k ho
        have hb := oneJ_bound ho
        rw [oneJ_app ho]
        dsimp only
        rw [List.drop_append_of_le_length hb.2.2.2]
        cases hs : strJ ((a :: r).drop k) with
        | none => rw [hs] at h; cases h
        | some p =>
          obtain ⟨u, j⟩ := p
          rw [hs] at h
          rw [strJ_app m _ u j (by rw [List.length_drop]; simp only [List.length_cons] at *; omega) hs]
          exact h
theorem atL_app {l p x : List UInt8} {k : Nat} (h : atL l p k = true) (hp : p ≠ []) : atL (l ++ x) p k = true := by
  have hl : k + p.length ≤ l.length := (atL_len h).resolve_right hp
  unfold atL at h ⊢
  simp only [Bool.and_eq_true, decide_eq_true_eq] at h ⊢
  refine ⟨by rw [List.length_append]; omega, ?_⟩
  rw [List.drop_append_of_le_length h.1, List.take_append_of_le_length (by rw [List.length_drop]; omega)]
  exact h.2
theorem atL_hd {l p : List UInt8} {k : Nat} {c : UInt8} (h : atL l (c :: p) k = true) : bt l k = c.toNat := by
  unfold atL at h
  simp only [Bool.and_eq_true, decide_eq_true_eq] at h
  have h2 := h.2
  have h3 := bt_drop l k 0
  cases hd : l.drop k with
  | nil => rw [hd] at h2; simp at h2
  | cons b r =>
    rw [hd] at h2 h3
    simp at h2
    rw [bt_c0] at h3
    rw [Nat.add_zero] at h3
    rw [← h3, h2.1]
section
variable {l r : List UInt8} {c : UInt8} (hc : markK c.toNat)
include hc
theorem bt_mark {i : Nat} (hi : i ≤ l.length) (P : Nat → Prop) (hP : ∀ m, markK m → ¬ P m) (h0 : ¬ P 0) : P (bt (l ++ c :: r) i) ↔ P (bt l i) := by
  rcases Nat.lt_or_ge i l.length with h | h
  · rw [bt_app h]
  · obtain rfl : i = l.length := by omega
    have h1 : bt (l ++ c :: r) l.length = c.toNat := by
      have := bt_drop (l ++ c :: r) l.length 0
      rw [List.drop_left, bt_c0, Nat.add_zero] at this
      exact this.symm
    have h2 : bt l l.length = 0 := by simp [bt, List.getD_eq_getElem?_getD]
    rw [h1, h2]
    exact ⟨fun h => absurd h (hP _ hc), fun h => absurd h h0⟩
theorem digE_mark : ∀ (m k : Nat), l.length ≤ k + m → k ≤ l.length → digE (l ++ c :: r) k = digE l k
  | m, k, hm, hk => by
    have hb := bt_mark (l := l) (r := r) hc hk isDg (fun m hm => by unfold markK at hm; unfold isDg; omega) (by decide)
    by_cases hd : isDg (bt l k)
    · have hkl : k < l.length := by
        rcases Nat.lt_or_ge k l.length with h | h
        · exact h
        · rw [show bt l k = 0 by simp [bt, List.getD_eq_getElem?_getD, List.getElem?_eq_none h]] at hd
          exact absurd hd (by decide)
      rw [digE_yes hkl hd, digE_yes (by simp; omega) (hb.2 hd)]
      cases m with
      | zero => omega
      | succ m => exact digE_mark m (k + 1) (by omega) (by omega)
    · rw [digE_no hd, digE_no (fun h => hd (hb.1 h))]
theorem numE_mark {k : Nat} (hk : k < l.length) : numE (l ++ c :: r) k = numE l k := by
  have hD := fun i (hi : i ≤ l.length) => digE_mark (l := l) (r := r) hc l.length i (by omega) hi
  have hB := fun (i a : Nat) (hi : i ≤ l.length) (h1 : a ≠ 0) (h2 : ¬ markK a) => bt_mark (l := l) (r := r) hc hi (fun x => x = a) (fun m hm h => h2 (h ▸ hm)) (fun h => h1 h.symm)
  have h0 : numStart (l ++ c :: r) k = numStart l k := by
    unfold numStart
    simp only [hB k 45 (by omega) (by decide) (by decide)]
  have h0b := numStart_bd l k hk
  unfold numE
  rw [h0, hD _ h0b.2]
  split
  · rfl
  rename_i hd
  have hp := digE_pos hd
  have h1 : numInt (l ++ c :: r) (numStart l k) = numInt l (numStart l k) := by
    unfold numInt
    simp only [hB (numStart l k) 48 h0b.2 (by decide) (by decide), hD _ h0b.2]
  have h1b : numInt l (numStart l k) ≤ l.length := by
    unfold numInt
    split
    · omega
    · exact digE_le l _ h0b.2
  have h2 : numFrac (l ++ c :: r) (numInt l (numStart l k)) = numFrac l (numInt l (numStart l k)) := by
    unfold numFrac
    by_cases h46 : bt l (numInt l (numStart l k)) = 46
    · have := bt_pos_lt (l := l) (k := numInt l (numStart l k)) (by omega)
      simp only [hB _ 46 h1b (by decide) (by decide), hD (numInt l (numStart l k) + 1) (by omega)]
    · rw [if_neg (fun h => h46 ((hB _ 46 h1b (by decide) (by decide)).1 h.1)), if_neg (fun h => h46 h.1)]
  have h2b := (numFrac_bd l _ h1b).2
  have h3 : numExp (l ++ c :: r) (numFrac l (numInt l (numStart l k))) = numExp l (numFrac l (numInt l (numStart l k))) := by
    unfold numExp
    by_cases hE : bt l (numFrac l (numInt l (numStart l k))) = 101 ∨ bt l (numFrac l (numInt l (numStart l k))) = 69
    · have hlt := bt_pos_lt (l := l) (k := numFrac l (numInt l (numStart l k))) (by omega)
      have e1 : expStart (l ++ c :: r) (numFrac l (numInt l (numStart l k)) + 1) = expStart l (numFrac l (numInt l (numStart l k)) + 1) := by
        unfold expStart
        simp only [hB _ 43 hlt (by decide) (by decide), hB _ 45 hlt (by decide) (by decide)]
      have e2 := (expStart_bd l (numFrac l (numInt l (numStart l k)) + 1) hlt).2
      rw [e1, hD _ e2, if_pos hE, if_pos (by rw [hB _ 101 h2b (by decide) (by decide), hB _ 69 h2b (by decide) (by decide)]; exact hE)]
    · rw [if_neg hE, if_neg (by rw [hB _ 101 h2b (by decide) (by decide), hB _ 69 h2b (by decide) (by decide)]; exact hE)]
  rw [h1, h2, h3]
theorem oneT_app {k : Nat} {t : Tok} (hk : k < l.length) (h : oneT l k = some t) : oneT (l ++ c :: r) k = some t := by
  have hbd := oneT_bd hk h
  unfold oneT at h ⊢
  rw [bt_app hk, List.drop_append_of_le_length hk]
  by_cases q1 : markK (bt l k)
  · rw [if_pos q1] at h ⊢; exact h
  rw [if_neg q1] at h ⊢
  by_cases q2 : bt l k = 34
  · rw [if_pos q2] at h ⊢
    cases hs : strJ (l.drop (k + 1)) with
    | none => rw [hs] at h; cases h
    | some p =>
      obtain ⟨u, n⟩ := p
      rw [hs] at h
      rw [strJ_app _ _ u n (Nat.le_refl _) hs]; exact h
  rw [if_neg q2] at h ⊢
  by_cases q3 : atL l tTrue k = true
  · rw [if_pos q3] at h; rw [if_pos (atL_app q3 (by decide))]; exact h
  rw [if_neg q3] at h
  by_cases q4 : atL l tFalse k = true
  · rw [if_pos q4] at h
    have e := atL_hd q4
    rw [if_neg (fun x => by have := atL_hd x; rw [bt_app hk, e] at this; revert this; decide), if_pos (atL_app q4 (by decide))]; exact h
  rw [if_neg q4] at h
  by_cases q5 : atL l tNull k = true
  · rw [if_pos q5] at h
    have e := atL_hd q5
    rw [if_neg (fun x => by have := atL_hd x; rw [bt_app hk, e] at this; revert this; decide), if_neg (fun x => by have := atL_hd x; rw [bt_app hk, e] at this; revert this; decide), if_pos (atL_app q5 (by decide))]; exact h
  rw [if_neg q5] at h
  cases hn : numE l k with
  | none => rw [hn] at h; cases h
  | some e =>
    rw [hn] at h
    have hdg : bt l k = 45 ∨ isDg (bt l k) := by
      unfold numE at hn
      split at hn
      · cases hn
      · rename_i hd
        have hp := digE_pos hd
        unfold numStart at hp
        by_cases h45 : bt l k = 45
        · exact .inl h45
        · rw [if_neg h45] at hp; exact .inr hp.2
    have hno : ∀ (a : UInt8) (p : List UInt8), 58 < a.toNat → ¬ atL (l ++ c :: r) (a :: p) k = true := fun a p ha x => by
      have := atL_hd x
      rw [bt_app hk] at this
      unfold isDg at hdg; omega
    rw [if_neg (show ¬ atL (l ++ c :: r) tTrue k = true from hno 116 _ (by decide)), if_neg (show ¬ atL (l ++ c :: r) tFalse k = true from hno 102 _ (by decide)), if_neg (show ¬ atL (l ++ c :: r) tNull k = true from hno 110 _ (by decide)), numE_mark hc hk, hn]
    simp only [Option.some.injEq] at h ⊢
    have hle := (numE_bd hk hn).2
    rw [List.drop_append_of_le_length (by omega), List.take_append_of_le_length (by rw [List.length_drop]; omega)]
    exact h
theorem toksAt_app : ∀ (m k : Nat) (ts : List Tok), l.length ≤ k + m → k ≤ l.length → toksAt l k = some ts → toksAt (l ++ c :: r) k = (toksAt (l ++ c :: r) l.length).map (ts ++ ·)
  | m, k, ts, hm, hk, h => by
    rcases Nat.lt_or_ge k l.length with h1 | h1
    · cases m with
      | zero => omega
      | succ m =>
        rw [toksAt_step h1] at h
        rw [toksAt_step (by simp; omega), bt_app h1]
        by_cases hb : blankK (bt l k)
        · rw [if_pos hb] at h ⊢
          exact toksAt_app m (k + 1) ts (by omega) (by omega) h
        · rw [if_neg hb] at h ⊢
          cases ho : oneT l k with
          | none => rw [ho] at h; cases h
          | some t =>
            rw [ho] at h
            have hbd := oneT_bd h1 ho
            rw [oneT_app hc h1 ho]
            dsimp only at h ⊢
            cases hr : toksAt l t.to with
            | none => rw [hr] at h; cases h
            | some us =>
              rw [hr] at h
              simp only [Option.map_some, Option.some.injEq] at h
              subst h
              rw [toksAt_app m t.to us (by omega) hbd.2.2.1 hr]
              cases toksAt (l ++ c :: r) l.length <;> simp
    · obtain rfl : k = l.length := by omega
      rw [toksAt_end (Nat.le_refl _)] at h
      cases h
      cases toksAt (l ++ c :: r) l.length <;> simp
/-- The tokens of a text ahead of a bracket. -/
theorem toks_app {ts : List Tok} (h : toks l = some ts) : toks (l ++ c :: r) = (toks (c :: r)).map fun us => ts ++ us.map (shiftT l.length) := by
  unfold toks at h
  have h1 := toksAt_app (l := l) (r := r) hc l.length 0 ts (by omega) (by omega) h
  show toksAt (l ++ c :: r) 0 = _
  rw [h1, toksAt_zero _ _ (by simp), List.drop_left]
  cases toks (c :: r) <;> simp
end
end Go.Proofs.Ytdfnlcigbmiafaa

/- Plain: a value between brackets (chapter 37). -/
namespace Go.Proofs.Ytdfnlcigbmiafaa
set_option linter.unusedVariables false
set_option linter.unusedSimpArgs false
theorem val_up {ts : List Tok} : ∀ (f f' k : Nat) (n : Node) (k2 : Nat), f ≤ f' → valI f ts k = some (n, k2) → valI f' ts k = some (n, k2)
  | 0, f', k, n, k2, _, h => by cases h
  | f + 1, 0, k, n, k2, hf, h => by omega
  | f + 1, f' + 1, k, n, k2, hf, h => by
    obtain ⟨t, ht, _⟩ := valI_head h
    rw [valI_at ht] at h
    rw [valI_at ht]
    by_cases q1 : t.kind = 34 ∨ t.kind = 48 ∨ t.kind = 97
    · rw [if_pos q1] at h ⊢; exact h
    rw [if_neg q1] at h ⊢
    by_cases q2 : t.kind ≠ 91 ∧ t.kind ≠ 123
    · rw [if_pos q2] at h; cases h
    rw [if_neg q2] at h ⊢
    obtain ⟨E, hE⟩ : ∃ E, (if t.kind = 123 then 125 else 93) = E := ⟨_, rfl⟩
    rw [hE] at h ⊢
    by_cases q3 : isK ts (k + 1) E = true
    · rw [if_pos q3] at h ⊢; exact h
    · rw [if_neg q3] at h ⊢
      cases he : elems (fun j => valI f ts j) ts (decide (t.kind = 123)) E ts.length (k + 1) [] [] with
      | none => rw [he] at h; cases h
      | some out =>
        obtain ⟨ks, ns, k3⟩ := out
        rw [he] at h
        have h2 := elems_ext (val' := fun j => valI f' ts j) (pre := []) (post := []) (fun k n k2 hv => ⟨(valI_bd _ _ _ _ _ hv).1, (valI_bd _ _ _ _ _ hv).2, by have := valI_bd _ _ _ _ _ hv; omega, by simpa using val_up f f' k n k2 (by omega) hv⟩) _ _ _ _ _ _ _ he
        simp only [List.nil_append, List.append_nil, List.length_nil, Nat.zero_add] at h2
        rw [h2]
        exact h
/-- What Parse says of a value in a row of one. -/
theorem parse_wrap {b : List UInt8} {ts : List Tok} {n : Node} (ht : toks b = some ts) (hv : val ts = some (n, ts.length)) :
    parseJ (91 :: b ++ [93]) = if 32 < deepN n + 1 then .error 8 else .ok (.mk 91 [] [] [n]) := by
  have h1 : toks (b ++ [93]) = some (ts ++ [⟨93, [], b.length, b.length + 1⟩]) := by
    rw [toks_app (by decide) ht, toks_mark (by decide)]; rfl
  have h2 : toks (91 :: b ++ [93]) = some ((⟨91, [], 0, 1⟩ : Tok) :: (ts ++ [(⟨93, [], b.length, b.length + 1⟩ : Tok)]).map (shiftT 1)) := by
    rw [List.cons_append, toks_mark (by decide), h1]; rfl
  obtain ⟨us, hus⟩ : ∃ us, us = ts.map (shiftT 1) := ⟨_, rfl⟩
  obtain ⟨z, hz⟩ : ∃ z : Tok, z = ⟨93, [], 1 + b.length, 1 + (b.length + 1)⟩ := ⟨_, rfl⟩
  have hlen : us.length = ts.length := by rw [hus, List.length_map]
  have h3 : toks (91 :: b ++ [93]) = some ([⟨91, [], 0, 1⟩] ++ us ++ [z]) := by
    rw [h2, List.map_append, ← hus, hz]; rfl
  have hvu : valI (ts.length + 1) us 0 = some (n, us.length) := by
    rw [hus, val_shift (shiftT 1) (fun t => ⟨rfl, rfl⟩), List.length_map]; exact hv
  have hx := val_ext (pre := [⟨91, [], 0, 1⟩]) (post := [z]) _ _ _ _ hvu
  obtain ⟨t0, ht0, hk0⟩ := valI_head hvu
  have hpos : 0 < us.length := (List.getElem?_eq_some_iff.1 ht0).1
  obtain ⟨W, hW⟩ : ∃ W, [⟨91, [], 0, 1⟩] ++ us ++ [z] = W := ⟨_, rfl⟩
  rw [hW] at hx h3
  have hWl : W.length = us.length + 2 := by rw [← hW]; simp
  have hW0 : W[0]? = some ⟨91, [], 0, 1⟩ := by rw [← hW]; rfl
  have hWz : isK W (1 + us.length) 93 = true := by
    unfold isK; rw [← hW, List.getElem?_append_right (by simp; omega)]; simp [hz, Nat.add_comm]
  have hW1 : ¬ isK W 1 93 = true := by
    intro h
    rw [← hW] at h
    have := isK_ext (pre := [⟨91, [], 0, 1⟩]) (post := [z]) (c := 93) hpos
    simp only [List.length_singleton, Nat.add_zero] at this
    rw [this] at h
    unfold isK at h
    rw [ht0] at h
    simp only [decide_eq_true_eq] at h
    omega
  have hvW : val W = some (.mk 91 [] [] [n], W.length) := by
    unfold val
    rw [valI_at hW0, if_neg (by decide), if_neg (by decide), if_neg (show ¬ isK W (0 + 1) (if (⟨91, [], 0, 1⟩ : Tok).kind = 123 then 125 else 93) = true from hW1)]
    have he : elems (fun j => valI W.length W j) W (decide ((⟨91, [], 0, 1⟩ : Tok).kind = 123)) (if (⟨91, [], 0, 1⟩ : Tok).kind = 123 then 125 else 93) W.length (0 + 1) [] [] = some ([], [n], W.length) := by
      obtain ⟨g, hg⟩ : ∃ g, W.length = g + 1 := ⟨W.length - 1, by omega⟩
      show elems (fun j => valI W.length W j) W false 93 W.length 1 [] [] = _
      rw [show elems (fun j => valI W.length W j) W false 93 W.length 1 [] [] = elems (fun j => valI W.length W j) W false 93 (g + 1) 1 [] [] from by rw [← hg]]
      unfold elems
      rw [if_neg (by simp)]
      have hxx : valI W.length W 1 = some (n, 1 + us.length) := val_up (ts.length + 1) _ _ _ _ (by omega) (by simpa using hx)
      rw [if_neg (by decide), hxx]
      dsimp only
      rw [if_pos hWz]
      simp; omega
    rw [he]
  unfold parseJ
  rw [h3]
  dsimp only
  rw [hvW]
  dsimp only
  rw [if_pos rfl]
  simp [deepN, deepL]
/-- What Parse says of a text, and of it in a row of one. -/
theorem parse_wraps (b : List UInt8) : parseJ b = .error 7 ∨ (parseJ b = .error 8 ∧ parseJ (91 :: b ++ [93]) = .error 8) ∨
    ∃ n, parseJ b = .ok n ∧ ((32 ≤ deepN n ∧ parseJ (91 :: b ++ [93]) = .error 8) ∨ (deepN n < 32 ∧ parseJ (91 :: b ++ [93]) = .ok (.mk 91 [] [] [n]))) := by
  cases ht : toks b with
  | none => left; unfold parseJ; rw [ht]
  | some ts =>
    cases hv : val ts with
    | none => left; unfold parseJ; rw [ht]; dsimp only; rw [hv]
    | some p =>
      obtain ⟨n, k⟩ := p
      by_cases hk : k = ts.length
      · subst hk
        have h1 := parse_wrap ht hv
        have h2 : parseJ b = if 32 < deepN n then .error 8 else .ok n := by
          unfold parseJ; rw [ht]; dsimp only; rw [hv]; dsimp only; rw [if_pos rfl]
        right
        by_cases hd : 32 < deepN n
        · left; exact ⟨by rw [h2, if_pos hd], by rw [h1, if_pos (by omega)]⟩
        · right
          refine ⟨n, by rw [h2, if_neg hd], ?_⟩
          by_cases he : 32 < deepN n + 1
          · left; exact ⟨by omega, by rw [h1, if_pos he]⟩
          · right; exact ⟨by omega, by rw [h1, if_neg he]⟩
      · left; unfold parseJ; rw [ht]; dsimp only; rw [hv]; dsimp only; rw [if_neg hk]
end Go.Proofs.Ytdfnlcigbmiafaa

/- Plain: a hook's error, and its text (chapter 37). -/
namespace Go.Proofs.Ytdfnlcigbmiafaa
open Go.RowKit
set_option linter.unusedVariables false
set_option linter.unusedSimpArgs false
/-- What Parse says of a text: 0: it is a value. -/
def errJ (l : List UInt8) : Int := match parseJ l with | .error c => c | .ok _ => 0
theorem errJ_err {l : List UInt8} {c : Nat} (h : parseJ l = .error c) : errJ l = c := by unfold errJ; rw [h]
theorem errJ_ok {l : List UInt8} {n : Node} (h : parseJ l = .ok n) : errJ l = 0 := by unfold errJ; rw [h]
theorem parse_size {l : List UInt8} {n : Node} (h : parseJ l = .ok n) : sizeN n ≤ l.length := by
  unfold parseJ at h
  split at h
  · cases h
  · rename_i ts htk
    have hlen := toks_len htk
    split at h
    · cases h
    · rename_i m k hv
      split at h
      · split at h
        · cases h
        · rename_i hk _
          cases h
          have := valI_size _ _ _ _ _ hv
          omega
      · cases h
/-- What Parse hands back. -/
theorem parse_two (l : List UInt8) : ∃ n : Node, sizeN n ≤ l.length + 1 ∧ (errJ l = 0 → parseJ l = .ok n) ∧
    ∀ (B : Nat) (e : Ending) (W : World), ParR (parseJ l) B e W → ∃ a b d f : Value, e = .returned (.tuple #[.agg #[a, b, d, f], .int .i64 (errJ l)]) ∧ NodeW W (fun g => B ≤ g) n (.agg #[a, b, d, f]) := by
  cases hp : parseJ l with
  | error c =>
    refine ⟨.mk 0 [] [] [], by simp [sizeN, sizeL], fun h0 => ?_, fun B e W h => ⟨_, _, _, _, ?_, node_leaf _ _ 0 []⟩⟩
    · rw [errJ_err hp] at h0
      exfalso
      have hc : c = 0 := by omega
      subst hc
      unfold parseJ at hp
      split at hp
      · cases hp
      · split at hp
        · cases hp
        · split at hp
          · split at hp <;> cases hp
          · cases hp
    · rw [errJ_err hp]; exact h
  | ok n =>
    refine ⟨n, by have := parse_size hp; omega, fun _ => rfl, fun B e W h => ?_⟩
    rw [errJ_ok hp]; exact h
/-- Why a hook may not be: 0: it may. -/
def hookE (r b : List UInt8) : Int := if clean r ≠ r ∨ errJ b = 7 then 7 else if errJ (91 :: b ++ [93]) = 0 then 0 else 8
theorem hook_cases (r b : List UInt8) (n : Node) (hn : errJ b = 0 → parseJ b = .ok n) :
    (clean r ≠ r ∧ hookE r b = 7) ∨ (clean r = r ∧ errJ b = 7 ∧ hookE r b = 7) ∨ (clean r = r ∧ errJ b = 8 ∧ errJ (91 :: b ++ [93]) = 8 ∧ hookE r b = 8) ∨
    (clean r = r ∧ errJ b = 0 ∧ 32 ≤ deepN n ∧ errJ (91 :: b ++ [93]) = 8 ∧ hookE r b = 8) ∨ (clean r = r ∧ errJ b = 0 ∧ deepN n < 32 ∧ errJ (91 :: b ++ [93]) = 0 ∧ hookE r b = 0) := by
  by_cases hc : clean r = r
  · right
    rcases parse_wraps b with h | ⟨h, h2⟩ | ⟨m, h, h2⟩
    · left; have := errJ_err h; exact ⟨hc, this, by unfold hookE; rw [if_pos (.inr this)]⟩
    · right; left
      have e1 := errJ_err h; have e2 := errJ_err h2
      exact ⟨hc, e1, e2, by unfold hookE; rw [if_neg (fun x => by rcases x with x | x; exact x hc; rw [e1] at x; revert x; decide), if_neg (by rw [e2]; decide)]⟩
    · have e1 := errJ_ok h
      have e3 := hn e1
      rw [h] at e3
      cases e3
      right; right
      rcases h2 with ⟨h3, h4⟩ | ⟨h3, h4⟩
      · left
        have e2 := errJ_err h4
        exact ⟨hc, e1, h3, e2, by unfold hookE; rw [if_neg (fun x => by rcases x with x | x; exact x hc; rw [e1] at x; revert x; decide), if_neg (by rw [e2]; decide)]⟩
      · right
        have e2 := errJ_ok h4
        exact ⟨hc, e1, h3, e2, by unfold hookE; rw [if_neg (fun x => by rcases x with x | x; exact x hc; rw [e1] at x; revert x; decide), if_pos e2]⟩
  · left
    exact ⟨hc, by unfold hookE; rw [if_pos (.inl hc)]⟩
def wordB (f : Bool) : ByteArray := if f then ⟨#[102, 105, 114, 105, 110, 103]⟩ else ⟨#[114, 101, 115, 111, 108, 118, 101, 100]⟩
def wordL (f : Bool) : List UInt8 := if f then [102, 105, 114, 105, 110, 103] else [114, 101, 115, 111, 108, 118, 101, 100]
def opensL : List UInt8 := [123, 34, 114, 101, 99, 101, 105, 118, 101, 114, 34, 58, 34]
def statL : List UInt8 := [34, 44, 34, 115, 116, 97, 116, 117, 115, 34, 58, 34]
def bodyL : List UInt8 := [34, 44, 34, 98, 111, 100, 121, 34, 58]
/-- A hook, written. -/
def hookL (f : Bool) (r b : List UInt8) : List UInt8 := opensL ++ writeJ r ++ statL ++ wordL f ++ bodyL ++ b ++ [125]
def hookT (f : Bool) (r b : List UInt8) : ByteArray := if hookE r b = 0 then strOf (hookL f r b) else ⟨#[]⟩
theorem hookT_ok {f : Bool} {r b : List UInt8} (h : hookE r b = 0) : hookT f r b = strOf (hookL f r b) := if_pos h
theorem hookT_no {f : Bool} {r b : List UInt8} (h : hookE r b ≠ 0) : hookT f r b = ⟨#[]⟩ := if_neg h
/-- The text, put together piece by piece. -/
theorem hook_parts (f : Bool) (r b : ByteArray) (hr : r.size ≤ 2000) (hb : b.size ≤ 2000) : ∃ A1 A2 A3 A4 A5 A6 : ByteArray,
    (({ data := #[123, 34, 114, 101, 99, 101, 105, 118, 101, 114, 34, 58, 34] } : ByteArray) ++ strOf (writeJ r.data.toList) = A1 ∧ A1 ++ ({ data := #[34, 44, 34, 115, 116, 97, 116, 117, 115, 34, 58, 34] } : ByteArray) = A2 ∧
    A2 ++ wordB f = A3 ∧ A3 ++ ({ data := #[34, 44, 34, 98, 111, 100, 121, 34, 58] } : ByteArray) = A4 ∧ A4 ++ b = A5 ∧ A5 ++ ({ data := #[125] } : ByteArray) = A6) ∧
    A1.size ≤ 20000 ∧ A2.size ≤ 20000 ∧ A3.size ≤ 20000 ∧ A4.size ≤ 20000 ∧ A5.size ≤ 20000 ∧ A6.size ≤ 20000 ∧ A6 = strOf (hookL f r.data.toList b.data.toList) := by
  have hap : ∀ (a b : List UInt8), strOf a ++ strOf b = strOf (a ++ b) := fun a b => by simp [strOf, ByteArray.mk_append_mk]
  have hsz : ∀ l, (strOf l).size = l.length := strOf_size
  have hw := write_length r.data.toList
  have hlr := sz_len r
  have hlb := sz_len b
  have hwd : (wordL f).length ≤ 8 := by cases f <;> decide
  have hbb : strOf b.data.toList = b := strOf_data b
  refine ⟨strOf (opensL ++ writeJ r.data.toList), strOf (opensL ++ writeJ r.data.toList ++ statL), strOf (opensL ++ writeJ r.data.toList ++ statL ++ wordL f), strOf (opensL ++ writeJ r.data.toList ++ statL ++ wordL f ++ bodyL), strOf (opensL ++ writeJ r.data.toList ++ statL ++ wordL f ++ bodyL ++ b.data.toList), strOf (hookL f r.data.toList b.data.toList), ⟨?_, ?_, ?_, ?_, ?_, ?_⟩, ?_, ?_, ?_, ?_, ?_, ?_, rfl⟩
  · exact hap opensL _
  · exact hap _ statL
  · have : wordB f = strOf (wordL f) := by cases f <;> rfl
    rw [this]; exact hap _ _
  · exact hap _ bodyL
  · have h := hap (opensL ++ writeJ r.data.toList ++ statL ++ wordL f ++ bodyL) b.data.toList
    rw [hbb] at h
    exact h
  · exact hap _ [125]
  all_goals
    rw [hsz]
    simp only [hookL, List.length_append, show opensL.length = 13 from rfl, show statL.length = 12 from rfl, show bodyL.length = 9 from rfl, List.length_singleton]
    omega
end Go.Proofs.Ytdfnlcigbmiafaa

/- Walks: a hook's check and its text: the checks (chapter 37). -/
namespace Go.Proofs.Ytdfnlcigbmiafaa
open Go.RowKit
set_option linter.unusedVariables false
set_option linter.unusedSimpArgs false
theorem ba_ext {a b : ByteArray} (h : a.data.toList = b.data.toList) : a = b := by
  cases a; cases b; simp at h; simp [h]
theorem below_drewT {w w' : World} (h : Below w.drew.heap.size w.drew w') : Below w.heap.size w w' := ⟨h.os, h.tape, h.output, h.size, h.block⟩
theorem NodeW.belowT {w w' : World} {B : Nat} {n : Node} {v : Value} (h : NodeW w (fun g => B ≤ g) n v) (hb : Below w.heap.size w w') : NodeW w' (fun g => B ≤ g) n v :=
  NodeW.mono (fun g hg hl => ⟨hg, Nat.lt_of_lt_of_le hl hb.size, hb.block g hl⟩) n v h
set_option maxRecDepth 100000 in
set_option maxHeartbeats 8000000 in
theorem wcheck_any (f : Bool) (r b : ByteArray) (w : World) (hr : r.size ≤ 2000) (hb : b.size ≤ 2000) :
    Calls Try.prog 10 #[.agg #[.bool f, .string r, .string b]] w fun e w' => e = .returned (.int .i64 (hookE r.data.toList b.data.toList)) ∧ Below w.heap.size w w' := by
  have hlb := sz_len b
  obtain ⟨n, hsz, hok, hpar⟩ := parse_two b.data.toList
  have P1 : Hid (∀ w, Calls Try.prog 21 #[.string b] w fun e w' => (∃ va vb vc vd : Value, e = .returned (.tuple #[.agg #[va, vb, vc, vd], .int .i64 (errJ b.data.toList)]) ∧ NodeW w' (fun g => w.heap.size ≤ g) n (.agg #[va, vb, vc, vd])) ∧ Below w.heap.size w w') :=
    fun w => (jparse_any b w (by omega)).mono fun e w' h => ⟨hpar _ _ _ h.1, h.2⟩
  have HC := Lib.hid (fun w => clean_any r w (by omega))
  have hap : ∀ (a b : List UInt8), strOf a ++ strOf b = strOf (a ++ b) := fun a b => by simp [strOf, ByteArray.mk_append_mk]
  have t1 : ({ data := #[91] } : ByteArray) ++ b = strOf (91 :: b.data.toList) := by
    have h := hap [91] b.data.toList
    rw [strOf_data] at h; exact h
  have t2 : strOf (91 :: b.data.toList) ++ ({ data := #[93] } : ByteArray) = strOf (91 :: b.data.toList ++ [93]) := hap _ [93]
  have z1 : (strOf (91 :: b.data.toList)).size ≤ 2001 := by rw [strOf_size, List.length_cons]; omega
  have z2 : (strOf (91 :: b.data.toList ++ [93])).size ≤ 2002 := by rw [strOf_size, List.length_append, List.length_cons, List.length_singleton]; omega
  obtain ⟨n2, _, _, hpar2⟩ := parse_two (91 :: b.data.toList ++ [93])
  have P2 : Hid (∀ w, Calls Try.prog 21 #[.string (strOf (91 :: b.data.toList ++ [93]))] w fun e w' => (∃ va vb vc vd : Value, e = .returned (.tuple #[.agg #[va, vb, vc, vd], .int .i64 (errJ (91 :: b.data.toList ++ [93]))]) ∧ NodeW w' (fun g => w.heap.size ≤ g) n2 (.agg #[va, vb, vc, vd])) ∧ Below w.heap.size w w') :=
    fun w => (jparse_any (strOf (91 :: b.data.toList ++ [93])) w (by omega)).mono fun e w' h => by rw [strOf_list] at h; exact ⟨hpar2 _ _ _ h.1, h.2⟩
  clear hpar2 hap
  have c91 : ({ data := #[91] } : ByteArray).size = 1 := rfl
  have c93 : ({ data := #[93] } : ByteArray).size = 1 := rfl
  have hcs := hook_cases r.data.toList b.data.toList n hok
  have hcX : strOf (clean r.data.toList) = r ↔ clean r.data.toList = r.data.toList := ⟨fun h => by have := congrArg (fun x : ByteArray => x.data.toList) h; simpa [strOf] using this, fun h => by rw [h, strOf_data]⟩
  generalize strOf (clean r.data.toList) = X at *
  obtain ⟨E, hE⟩ : ∃ E, hookE r.data.toList b.data.toList = E := ⟨_, rfl⟩
  rw [hE] at hcs ⊢
  clear hE
  have hbl2 : sizeN n ≤ 2001 := by omega
  clear hpar hok hlb hsz
  generalize errJ b.data.toList = c at *
  generalize strOf (91 :: b.data.toList ++ [93]) = Y2 at *
  generalize strOf (91 :: b.data.toList) = Y1 at *
  generalize errJ (91 :: b.data.toList ++ [93]) = c2 at *
  have HX1 := Lib.hid (Blk.new w 23 #[.bool f, .string r, .string b])
  have HB1 := Lib.hid ((Below.refl w.heap.size w).alloc (Nat.le_refl _) (.cells #[.bool f, .string r, .string b] 23))
  go_enter Try.func10, Try.ntmps10
  go_upto_region 1 with fail
  generalize hW : w.alloc (.cells #[.bool f, .string r, .string b] 23) = W1 at *
  clear hW
  have x2 := HX1.out.cell 2
  go_wp2_with fail
  refine (P1.out _).mono ?_
  rintro e w3 ⟨⟨va, vb, vc, vd, rfl, hn3⟩, b3⟩
  obtain ⟨v1, v2, v3, v4, v5, v6, v7, v8, rfl, rfl, rfl, rfl⟩ := node_shape hn3
  have HX4 := Lib.hid ((HX1.out.below b3 HX1.out.lt).alloc (.cells #[.int .u8 v1, .string v2, .slice v3 v4 v5, .slice v6 v7 v8] 47))
  have HB4 := Lib.hid ((HB1.out.trans (b3.mono HB1.out.size)).alloc (HB1.out.trans (b3.mono HB1.out.size)).size (.cells #[.int .u8 v1, .string v2, .slice v3 v4 v5, .slice v6 v7 v8] 47))
  clear hn3 b3 HX1 HB1 x2 P1
  go_upto_region 2 with fail
  generalize hW : w3.alloc (.cells #[.int .u8 v1, .string v2, .slice v3 v4 v5, .slice v6 v7 v8] 47) = W4 at *
  clear hW
  have K1 : W4.drew.cell? ⟨w.heap.size, 0, none⟩ = some (.bool f) ∧ W4.drew.cell? ⟨w.heap.size, 1, none⟩ = some (.string r) ∧ W4.drew.cell? ⟨w.heap.size, 2, none⟩ = some (.string b) := ⟨HX4.out.cell 0, HX4.out.cell 1, HX4.out.cell 2⟩
  have HK2 : Hid (∀ w', Below W4.drew.heap.size W4.drew w' → w'.cell? ⟨w.heap.size, 0, none⟩ = some (.bool f) ∧ w'.cell? ⟨w.heap.size, 1, none⟩ = some (.string r) ∧ w'.cell? ⟨w.heap.size, 2, none⟩ = some (.string b)) := by
    intro w' h
    have h3 := HX4.out.below (below_drewT h) HX4.out.lt
    exact ⟨h3.cell 0, h3.cell 1, h3.cell 2⟩
  rcases hcs with ⟨h1, hE⟩ | hcs
  · have q : (X.toList == r.toList) = false := by rw [beq_eq_false_iff_ne, ByteArray.toList_eq, ByteArray.toList_eq]; exact fun h => h1 (hcX.1 (ba_ext h))
    have HE := Lib.hid hE
    clear hE h1 hcX
    refine wp_region_held_drew (S := (fun w' => w'.cell? ⟨w.heap.size, 0, none⟩ = some (.bool f) ∧ w'.cell? ⟨w.heap.size, 1, none⟩ = some (.string r) ∧ w'.cell? ⟨w.heap.size, 2, none⟩ = some (.string b))) (by kernel_rfl) (by with_reducible exact K1) (fun hHeld => ?_)
    refine wpAnyH_take (i := 0) (v := ?_) rfl (by kernel_rfl) (by kernel_rfl) (by kernel_rfl) (fun _ _ _ h => h) (Or.inl ⟨by rfl, ?_⟩) (by assumption) ?_
    rotate_left
    · intro w hSw
      go_simp
      try rfl
    simp only [Act.put, List.setIfInBounds_toArray, List.set_cons_zero, List.set_cons_succ, List.getElem_toArray, List.getElem_cons_succ, List.getElem_cons_zero]
    refine wpAnyH_take (i := 1) (v := ?_) rfl (by kernel_rfl) (by kernel_rfl) (by kernel_rfl) (fun _ _ _ h => h) (Or.inl ⟨by rfl, ?_⟩) (by assumption) ?_
    rotate_left
    · intro w hSw
      go_simp
      try rfl
    simp only [Act.put, List.setIfInBounds_toArray, List.set_cons_zero, List.set_cons_succ, List.getElem_toArray, List.getElem_cons_succ, List.getElem_cons_zero]
    refine wpAnyH_take (i := 3) (v := ?_) rfl (by kernel_rfl) (by kernel_rfl) (by kernel_rfl) (fun _ _ _ h => h) (Or.inl ⟨by rfl, ?_⟩) (by assumption) ?_
    rotate_left
    · intro w hSw
      go_simp
      try rfl
    simp only [Act.put, List.setIfInBounds_toArray, List.set_cons_zero, List.set_cons_succ, List.getElem_toArray, List.getElem_cons_succ, List.getElem_cons_zero]
    refine wpAnyH_take (i := 4) (v := ?_) rfl (by kernel_rfl) (by kernel_rfl) (by kernel_rfl) (fun _ _ _ h => h) (Or.inl ⟨by rfl, ?_⟩) (by assumption) ?_
    rotate_left
    · intro w hSw
      go_simp
      try rfl
    simp only [Act.put, List.setIfInBounds_toArray, List.set_cons_zero, List.set_cons_succ, List.getElem_toArray, List.getElem_cons_succ, List.getElem_cons_zero]
    refine wpAnyH_ready (rs := [2]) (by kernel_rfl) (by simp) ?_
    refine AllReadyH.cons rfl (fun K9 hK => ?_) AllReadyH.nil
    go_simp
    go_at_call 22; refine (HC.out _).mono ?_; rintro e w6 ⟨rfl, k6⟩
    try go_wp2_with fail
    refine hK.out _ _ (by exact HK2.out _ k6) (fun hHeld => ?_)
    clear hK K9
    try simp only [Act.put, List.setIfInBounds_toArray, List.set_cons_zero, List.set_cons_succ, List.getElem_toArray, List.getElem_cons_succ, List.getElem_cons_zero]
    refine wpAnyH_take (i := 5) (v := ?_) rfl (by kernel_rfl) (by kernel_rfl) (by kernel_rfl) (fun _ _ _ h => h) (Or.inl ⟨by rfl, ?_⟩) (by assumption) ?_
    rotate_left
    · intro w hSw
      go_simp
      try rfl
    simp only [Act.put, List.setIfInBounds_toArray, List.set_cons_zero, List.set_cons_succ, List.getElem_toArray, List.getElem_cons_succ, List.getElem_cons_zero]
    refine wpAnyH_take (i := 6) (v := ?_) rfl (by kernel_rfl) (by kernel_rfl) (by kernel_rfl) (fun _ _ _ h => h) (Or.inl ⟨by rfl, ?_⟩) (by assumption) ?_
    rotate_left
    · intro w hSw
      go_simp
      try rfl
    simp only [Act.put, List.setIfInBounds_toArray, List.set_cons_zero, List.set_cons_succ, List.getElem_toArray, List.getElem_cons_succ, List.getElem_cons_zero]
    refine wpAnyH_take (i := 7) (v := undef) rfl (by kernel_rfl) (by kernel_rfl) (by kernel_rfl) (fun _ _ _ h => h) (Or.inr ⟨by rfl, rfl⟩) (by assumption) ?_
    simp only [Act.put, List.setIfInBounds_toArray, List.set_cons_zero, List.set_cons_succ, List.getElem_toArray, List.getElem_cons_succ, List.getElem_cons_zero]
    refine wpAnyH_take (i := 8) (v := undef) rfl (by kernel_rfl) (by kernel_rfl) (by kernel_rfl) (fun _ _ _ h => h) (Or.inr ⟨by rfl, rfl⟩) (by assumption) ?_
    simp only [Act.put, List.setIfInBounds_toArray, List.set_cons_zero, List.set_cons_succ, List.getElem_toArray, List.getElem_cons_succ, List.getElem_cons_zero]
    refine wpAnyH_take (i := 9) (v := ?_) rfl (by kernel_rfl) (by kernel_rfl) (by kernel_rfl) (fun _ _ _ h => h) (Or.inl ⟨by rfl, ?_⟩) (by assumption) ?_
    rotate_left
    · intro w hSw
      go_simp
      try rfl
    simp only [Act.put, List.setIfInBounds_toArray, List.set_cons_zero, List.set_cons_succ, List.getElem_toArray, List.getElem_cons_succ, List.getElem_cons_zero]
    refine wpAnyH_done (by kernel_rfl) ?_ _
    clear hHeld
    go_wp2_with fail
    go_ret
    exact ⟨by rw [HE.out]; rfl, HB4.out.trans ((below_drewT k6).mono HB4.out.size)⟩
  · have hXr : X = r := hcX.2 (by rcases hcs with h | h | h | h <;> exact h.1)
    have q : (X.toList == r.toList) = true := by rw [hXr]; simp
    clear hcX hXr
    have hcs2 : (c = 7 ∧ E = 7) ∨ ((c = 8 ∨ c = 0) ∧ ((c2 = 8 ∧ E = 8) ∨ (c2 = 0 ∧ E = 0))) := by
      rcases hcs with ⟨_, h1, h2⟩ | ⟨_, h1, h2, h3⟩ | ⟨_, h1, h2, h3, h4⟩ | ⟨_, h1, h2, h3, h4⟩
      · exact .inl ⟨h1, h2⟩
      · exact .inr ⟨.inl h1, .inl ⟨h2, h3⟩⟩
      · exact .inr ⟨.inr h1, .inl ⟨h3, h4⟩⟩
      · exact .inr ⟨.inr h1, .inr ⟨h3, h4⟩⟩
    clear hcs
    rcases hcs2 with ⟨rfl, hE⟩ | ⟨hc, hcs2⟩
    · have HE := Lib.hid hE
      clear hE
      go_region_held3 (fun w' => w'.cell? ⟨w.heap.size, 0, none⟩ = some (.bool f) ∧ w'.cell? ⟨w.heap.size, 1, none⟩ = some (.string r) ∧ w'.cell? ⟨w.heap.size, 2, none⟩ = some (.string b)) (first | (with_reducible exact K1) | (exact HK2.out _ k6)) ((go_at_call 22; refine (HC.out _).mono ?_; rintro e w6 ⟨rfl, k6⟩))
      go_wp2_with fail
      go_ret
      exact ⟨by rw [HE.out]; rfl, HB4.out.trans ((below_drewT k6).mono HB4.out.size)⟩
    · have hc7 : (c == 7) = false := by rcases hc with rfl | rfl <;> rfl
      clear hc
      go_region_held3 (fun w' => w'.cell? ⟨w.heap.size, 0, none⟩ = some (.bool f) ∧ w'.cell? ⟨w.heap.size, 1, none⟩ = some (.string r) ∧ w'.cell? ⟨w.heap.size, 2, none⟩ = some (.string b)) (first | (with_reducible exact K1) | (exact HK2.out _ k6)) ((go_at_call 22; refine (HC.out _).mono ?_; rintro e w6 ⟨rfl, k6⟩))
      have b6 := HB4.out.trans ((below_drewT k6).mono HB4.out.size)
      have hk6 := HK2.out _ k6
      have x2 := hk6.2.2
      have HB6 := Lib.hid b6
      clear b6 hk6 HK2 K1 HB4 k6 HX4
      go_wp2_with fail
      refine (P2.out _).mono ?_
      rintro e w7 ⟨⟨ua, ub, uc, ud, rfl, hn7⟩, b7⟩
      obtain ⟨u1, u2, u3, u4, u5, u6, u7, u8, rfl, rfl, rfl, rfl⟩ := node_shape hn7
      have HB7 := Lib.hid ((HB6.out.trans (b7.mono HB6.out.size)).alloc (HB6.out.trans (b7.mono HB6.out.size)).size (.cells #[.int .u8 u1, .string u2, .slice u3 u4 u5, .slice u6 u7 u8] 47))
      clear hn7 b7 HB6
      rcases hcs2 with ⟨rfl, hE⟩ | ⟨rfl, hE⟩
      all_goals
        have HE := Lib.hid hE
        clear hE
        go_wp2_with fail
        go_ret
        exact ⟨by rw [HE.out]; rfl, HB7.out⟩
set_option maxRecDepth 100000 in
set_option maxHeartbeats 8000000 in
theorem hcheck_any (f : Bool) (r b : ByteArray) (w : World) (hr : r.size ≤ 2000) (hb : b.size ≤ 2000) :
    Calls Try.prog 19 #[.agg #[.bool f, .string r, .string b]] w fun e w' => e = .returned (.int .i64 (hookE r.data.toList b.data.toList)) ∧ Below w.heap.size w w' := by
  have hlb := sz_len b
  obtain ⟨n, hsz, hok, hpar⟩ := parse_two b.data.toList
  have P1 : Hid (∀ w, Calls Try.prog 12 #[.string b] w fun e w' => (∃ va vb vc vd : Value, e = .returned (.tuple #[.agg #[va, vb, vc, vd], .int .i64 (errJ b.data.toList)]) ∧ NodeW w' (fun g => w.heap.size ≤ g) n (.agg #[va, vb, vc, vd])) ∧ Below w.heap.size w w') :=
    fun w => (rparse_any b w (by omega)).mono fun e w' h => ⟨hpar _ _ _ h.1, h.2⟩
  have HC := Lib.hid (fun w => rclean_any r w (by omega))
  have hcs := hook_cases r.data.toList b.data.toList n hok
  have hcX : strOf (clean r.data.toList) = r ↔ clean r.data.toList = r.data.toList := ⟨fun h => by have := congrArg (fun x : ByteArray => x.data.toList) h; simpa [strOf] using this, fun h => by rw [h, strOf_data]⟩
  generalize strOf (clean r.data.toList) = X at *
  obtain ⟨E, hE⟩ : ∃ E, hookE r.data.toList b.data.toList = E := ⟨_, rfl⟩
  rw [hE] at hcs ⊢
  clear hE
  have hbl2 : sizeN n ≤ 2001 := by omega
  clear hpar hok hlb hsz
  generalize errJ b.data.toList = c at *
  have HX1 := Lib.hid (Blk.new w 23 #[.bool f, .string r, .string b])
  have HB1 := Lib.hid ((Below.refl w.heap.size w).alloc (Nat.le_refl _) (.cells #[.bool f, .string r, .string b] 23))
  go_enter Try.func19, Try.ntmps19
  go_upto_region 1 with fail
  generalize hW : w.alloc (.cells #[.bool f, .string r, .string b] 23) = W1 at *
  clear hW
  have x2 := HX1.out.cell 2
  go_wp2_with fail
  refine (P1.out _).mono ?_
  rintro e w3 ⟨⟨va, vb, vc, vd, rfl, hn3⟩, b3⟩
  obtain ⟨v1, v2, v3, v4, v5, v6, v7, v8, rfl, rfl, rfl, rfl⟩ := node_shape hn3
  have HX4 := Lib.hid ((HX1.out.below b3 HX1.out.lt).alloc (.cells #[.int .u8 v1, .string v2, .slice v3 v4 v5, .slice v6 v7 v8] 34))
  have HB4 := Lib.hid ((HB1.out.trans (b3.mono HB1.out.size)).alloc (HB1.out.trans (b3.mono HB1.out.size)).size (.cells #[.int .u8 v1, .string v2, .slice v3 v4 v5, .slice v6 v7 v8] 34))
  have HN4 := Lib.hid (Blk.new w3 34 #[.int .u8 v1, .string v2, .slice v3 v4 v5, .slice v6 v7 v8])
  have HM4 : Hid (NodeW (w3.alloc (.cells #[.int .u8 v1, .string v2, .slice v3 v4 v5, .slice v6 v7 v8] 34)) (fun g => W1.heap.size ≤ g) n (.agg #[.int .u8 v1, .string v2, .slice v3 v4 v5, .slice v6 v7 v8])) := node_alloc _ hn3
  clear hn3 b3 HX1 HB1 x2 P1
  go_upto_region 2 with fail
  generalize hW : w3.alloc (.cells #[.int .u8 v1, .string v2, .slice v3 v4 v5, .slice v6 v7 v8] 34) = W4 at *
  clear hW
  generalize hBN : w3.heap.size = BN at *
  clear hBN
  have K1 : W4.drew.cell? ⟨w.heap.size, 0, none⟩ = some (.bool f) ∧ W4.drew.cell? ⟨w.heap.size, 1, none⟩ = some (.string r) ∧ W4.drew.cell? ⟨w.heap.size, 2, none⟩ = some (.string b) := ⟨HX4.out.cell 0, HX4.out.cell 1, HX4.out.cell 2⟩
  have HK2 : Hid (∀ w', Below W4.drew.heap.size W4.drew w' → w'.cell? ⟨w.heap.size, 0, none⟩ = some (.bool f) ∧ w'.cell? ⟨w.heap.size, 1, none⟩ = some (.string r) ∧ w'.cell? ⟨w.heap.size, 2, none⟩ = some (.string b)) := by
    intro w' h
    have h3 := HX4.out.below (below_drewT h) HX4.out.lt
    exact ⟨h3.cell 0, h3.cell 1, h3.cell 2⟩
  rcases hcs with ⟨h1, hE⟩ | hcs
  · have q : (X.toList == r.toList) = false := by rw [beq_eq_false_iff_ne, ByteArray.toList_eq, ByteArray.toList_eq]; exact fun h => h1 (hcX.1 (ba_ext h))
    have HE := Lib.hid hE
    clear hE h1 hcX
    refine wp_region_held_drew (S := (fun w' => w'.cell? ⟨w.heap.size, 0, none⟩ = some (.bool f) ∧ w'.cell? ⟨w.heap.size, 1, none⟩ = some (.string r) ∧ w'.cell? ⟨w.heap.size, 2, none⟩ = some (.string b))) (by kernel_rfl) (by with_reducible exact K1) (fun hHeld => ?_)
    refine wpAnyH_take (i := 0) (v := ?_) rfl (by kernel_rfl) (by kernel_rfl) (by kernel_rfl) (fun _ _ _ h => h) (Or.inl ⟨by rfl, ?_⟩) (by assumption) ?_
    rotate_left
    · intro w hSw
      go_simp
      try rfl
    simp only [Act.put, List.setIfInBounds_toArray, List.set_cons_zero, List.set_cons_succ, List.getElem_toArray, List.getElem_cons_succ, List.getElem_cons_zero]
    refine wpAnyH_take (i := 1) (v := ?_) rfl (by kernel_rfl) (by kernel_rfl) (by kernel_rfl) (fun _ _ _ h => h) (Or.inl ⟨by rfl, ?_⟩) (by assumption) ?_
    rotate_left
    · intro w hSw
      go_simp
      try rfl
    simp only [Act.put, List.setIfInBounds_toArray, List.set_cons_zero, List.set_cons_succ, List.getElem_toArray, List.getElem_cons_succ, List.getElem_cons_zero]
    refine wpAnyH_take (i := 3) (v := ?_) rfl (by kernel_rfl) (by kernel_rfl) (by kernel_rfl) (fun _ _ _ h => h) (Or.inl ⟨by rfl, ?_⟩) (by assumption) ?_
    rotate_left
    · intro w hSw
      go_simp
      try rfl
    simp only [Act.put, List.setIfInBounds_toArray, List.set_cons_zero, List.set_cons_succ, List.getElem_toArray, List.getElem_cons_succ, List.getElem_cons_zero]
    refine wpAnyH_take (i := 4) (v := ?_) rfl (by kernel_rfl) (by kernel_rfl) (by kernel_rfl) (fun _ _ _ h => h) (Or.inl ⟨by rfl, ?_⟩) (by assumption) ?_
    rotate_left
    · intro w hSw
      go_simp
      try rfl
    simp only [Act.put, List.setIfInBounds_toArray, List.set_cons_zero, List.set_cons_succ, List.getElem_toArray, List.getElem_cons_succ, List.getElem_cons_zero]
    refine wpAnyH_ready (rs := [2]) (by kernel_rfl) (by simp) ?_
    refine AllReadyH.cons rfl (fun K9 hK => ?_) AllReadyH.nil
    go_simp
    go_at_call 37; refine (HC.out _).mono ?_; rintro e w6 ⟨rfl, k6⟩
    try go_wp2_with fail
    refine hK.out _ _ (by exact HK2.out _ k6) (fun hHeld => ?_)
    clear hK K9
    try simp only [Act.put, List.setIfInBounds_toArray, List.set_cons_zero, List.set_cons_succ, List.getElem_toArray, List.getElem_cons_succ, List.getElem_cons_zero]
    refine wpAnyH_take (i := 5) (v := ?_) rfl (by kernel_rfl) (by kernel_rfl) (by kernel_rfl) (fun _ _ _ h => h) (Or.inl ⟨by rfl, ?_⟩) (by assumption) ?_
    rotate_left
    · intro w hSw
      go_simp
      try rfl
    simp only [Act.put, List.setIfInBounds_toArray, List.set_cons_zero, List.set_cons_succ, List.getElem_toArray, List.getElem_cons_succ, List.getElem_cons_zero]
    refine wpAnyH_take (i := 6) (v := ?_) rfl (by kernel_rfl) (by kernel_rfl) (by kernel_rfl) (fun _ _ _ h => h) (Or.inl ⟨by rfl, ?_⟩) (by assumption) ?_
    rotate_left
    · intro w hSw
      go_simp
      try rfl
    simp only [Act.put, List.setIfInBounds_toArray, List.set_cons_zero, List.set_cons_succ, List.getElem_toArray, List.getElem_cons_succ, List.getElem_cons_zero]
    refine wpAnyH_take (i := 7) (v := undef) rfl (by kernel_rfl) (by kernel_rfl) (by kernel_rfl) (fun _ _ _ h => h) (Or.inr ⟨by rfl, rfl⟩) (by assumption) ?_
    simp only [Act.put, List.setIfInBounds_toArray, List.set_cons_zero, List.set_cons_succ, List.getElem_toArray, List.getElem_cons_succ, List.getElem_cons_zero]
    refine wpAnyH_take (i := 8) (v := undef) rfl (by kernel_rfl) (by kernel_rfl) (by kernel_rfl) (fun _ _ _ h => h) (Or.inr ⟨by rfl, rfl⟩) (by assumption) ?_
    simp only [Act.put, List.setIfInBounds_toArray, List.set_cons_zero, List.set_cons_succ, List.getElem_toArray, List.getElem_cons_succ, List.getElem_cons_zero]
    refine wpAnyH_take (i := 9) (v := ?_) rfl (by kernel_rfl) (by kernel_rfl) (by kernel_rfl) (fun _ _ _ h => h) (Or.inl ⟨by rfl, ?_⟩) (by assumption) ?_
    rotate_left
    · intro w hSw
      go_simp
      try rfl
    simp only [Act.put, List.setIfInBounds_toArray, List.set_cons_zero, List.set_cons_succ, List.getElem_toArray, List.getElem_cons_succ, List.getElem_cons_zero]
    refine wpAnyH_done (by kernel_rfl) ?_ _
    clear hHeld
    go_wp2_with fail
    go_ret
    exact ⟨by rw [HE.out]; rfl, HB4.out.trans ((below_drewT k6).mono HB4.out.size)⟩
  · have hXr : X = r := hcX.2 (by rcases hcs with h | h | h | h <;> exact h.1)
    have q : (X.toList == r.toList) = true := by rw [hXr]; simp
    clear hcX hXr
    rcases hcs with ⟨_, rfl, hE⟩ | ⟨_, rfl, _, hE⟩ | hcs
    · have HE := Lib.hid hE
      clear hE
      go_region_held3 (fun w' => w'.cell? ⟨w.heap.size, 0, none⟩ = some (.bool f) ∧ w'.cell? ⟨w.heap.size, 1, none⟩ = some (.string r) ∧ w'.cell? ⟨w.heap.size, 2, none⟩ = some (.string b)) (first | (with_reducible exact K1) | (exact HK2.out _ k6)) ((go_at_call 37; refine (HC.out _).mono ?_; rintro e w6 ⟨rfl, k6⟩))
      go_wp2_with fail
      go_ret
      exact ⟨by rw [HE.out]; rfl, HB4.out.trans ((below_drewT k6).mono HB4.out.size)⟩
    · have HE := Lib.hid hE
      clear hE
      go_region_held3 (fun w' => w'.cell? ⟨w.heap.size, 0, none⟩ = some (.bool f) ∧ w'.cell? ⟨w.heap.size, 1, none⟩ = some (.string r) ∧ w'.cell? ⟨w.heap.size, 2, none⟩ = some (.string b)) (first | (with_reducible exact K1) | (exact HK2.out _ k6)) ((go_at_call 37; refine (HC.out _).mono ?_; rintro e w6 ⟨rfl, k6⟩))
      go_wp2_with fail
      go_ret
      exact ⟨by rw [HE.out]; rfl, HB4.out.trans ((below_drewT k6).mono HB4.out.size)⟩
    · have hc0 : c = 0 := by rcases hcs with h | h <;> exact h.2.1
      subst hc0
      go_region_held3 (fun w' => w'.cell? ⟨w.heap.size, 0, none⟩ = some (.bool f) ∧ w'.cell? ⟨w.heap.size, 1, none⟩ = some (.string r) ∧ w'.cell? ⟨w.heap.size, 2, none⟩ = some (.string b)) (first | (with_reducible exact K1) | (exact HK2.out _ k6)) ((go_at_call 37; refine (HC.out _).mono ?_; rintro e w6 ⟨rfl, k6⟩))
      have b6 := HB4.out.trans ((below_drewT k6).mono HB4.out.size)
      have HB6 := Lib.hid b6
      have hN6 := HN4.out.below (below_drewT k6) HN4.out.lt
      have HD6 := Lib.hid (rdeep_any 3000 n _ _ w6 (by omega) (by omega) (HM4.out.belowT (below_drewT k6)))
      have y0 := hN6.cell 0
      have y1 := hN6.cell 1
      have y2 := hN6.cell 2
      have y3 := hN6.cell 3
      clear b6 HK2 K1 HB4 k6 HX4 HN4 HM4 hN6 hbl2
      have hcs2 : (32 ≤ deepN n ∧ E = 8) ∨ (deepN n < 32 ∧ E = 0) := by
        rcases hcs with ⟨_, _, h1, _, h2⟩ | ⟨_, _, h1, _, h2⟩
        · exact .inl ⟨h1, h2⟩
        · exact .inr ⟨h1, h2⟩
      clear hcs
      generalize deepN n = D at *
      rcases hcs2 with ⟨hD, hE⟩ | ⟨hD, hE⟩
      all_goals
        have HE := Lib.hid hE
        clear hE
        go_wp2_with fail
        refine (HD6.out).mono ?_
        rintro e w7 ⟨rfl, b7⟩
        have HB7 := Lib.hid (HB6.out.trans (b7.mono HB6.out.size))
        clear b7 HB6 HD6
        go_wp2_with fail
        go_ret
        exact ⟨by rw [HE.out]; rfl, HB7.out⟩
end Go.Proofs.Ytdfnlcigbmiafaa

/- Walks: a hook's check and its text: the texts (chapter 37). -/
namespace Go.Proofs.Ytdfnlcigbmiafaa
open Go.RowKit
set_option linter.unusedVariables false
set_option linter.unusedSimpArgs false
theorem word_any (f : Bool) (w : World) : Calls Try.prog 18 #[.bool f] w fun e w' => e = .returned (.string (wordB f)) ∧ w' = w := by
  cases f
  all_goals
    go_enter Try.func18, Try.ntmps18
    go_wp2
    go_ret
    exact ⟨rfl, rfl⟩
set_option maxRecDepth 100000 in
set_option maxHeartbeats 8000000 in
theorem wbuild_any (f : Bool) (r b : ByteArray) (w : World) (hr : r.size ≤ 2000) (hb : b.size ≤ 2000) :
    Calls Try.prog 8 #[.agg #[.bool f, .string r, .string b]] w fun e w' => e = .returned (.tuple #[.string (hookT f r.data.toList b.data.toList), .int .i64 (hookE r.data.toList b.data.toList)]) ∧ Below w.heap.size w w' := by
  obtain ⟨A1, A2, A3, A4, A5, A6, ⟨a1, a2, a3, a4, a5, a6⟩, z1, z2, z3, z4, z5, z6, hA6⟩ := hook_parts f r b hr hb
  have HCk := Lib.hid (fun w => wcheck_any f r b w hr hb)
  have HWr := Lib.hid (fun w => write_any r w (by omega))
  have hwz : (strOf (writeJ r.data.toList)).size ≤ 12000 := by
    rw [strOf_size]; have := write_length r.data.toList; have := sz_len r; omega
  have h6 : hookE r.data.toList b.data.toList = 0 → hookT f r.data.toList b.data.toList = A6 := fun h => by rw [hookT_ok h, hA6]
  have h7 : hookE r.data.toList b.data.toList ≠ 0 → hookT f r.data.toList b.data.toList = ⟨#[]⟩ := fun h => hookT_no h
  have HWd := Lib.hid (fun w => word_any f w)
  clear hA6
  have q1 : ¬ 9223372036854775807 < 13 + (strOf (writeJ r.data.toList)).size := by omega
  have q2 : ¬ 9223372036854775807 < A1.size + 12 := by omega
  have q3 : ¬ 9223372036854775807 < A2.size + (wordB f).size := by have : (wordB f).size ≤ 8 := by cases f <;> decide
                                                                   omega
  have q7 : ¬ 9223372036854775807 < A2.size + 6 := by omega
  have q8 : ¬ 9223372036854775807 < A2.size + 8 := by omega
  have q4 : ¬ 9223372036854775807 < A3.size + 9 := by omega
  have q5 : ¬ 9223372036854775807 < A4.size + b.size := by omega
  have q6 : ¬ 9223372036854775807 < A5.size + 1 := by omega
  generalize strOf (writeJ r.data.toList) = X at *
  generalize hookE r.data.toList b.data.toList = E at *
  generalize hookT f r.data.toList b.data.toList = HT at *
  have HX1 := Lib.hid (Blk.new w 23 #[.bool f, .string r, .string b])
  have HB1 := Lib.hid ((Below.refl w.heap.size w).alloc (Nat.le_refl _) (.cells #[.bool f, .string r, .string b] 23))
  go_enter Try.func8, Try.ntmps8
  go_upto_region 1 with fail
  generalize hW : w.alloc (.cells #[.bool f, .string r, .string b] 23) = W1 at *
  clear hW
  have x0 := HX1.out.cell 0
  have x1 := HX1.out.cell 1
  have x2 := HX1.out.cell 2
  go_wp2_with fail
  refine (HCk.out _).mono ?_
  rintro e w3 ⟨rfl, b3⟩
  have HX4 := Lib.hid (HX1.out.below b3 HX1.out.lt)
  have HB4 := Lib.hid (HB1.out.trans (b3.mono HB1.out.size))
  clear b3 HX1 HB1 x0 x1 x2
  by_cases hE : E = 0
  · have HT6 := Lib.hid (h6 hE)
    subst hE
    clear h6 h7
    go_upto_region 4 with fail
    have K1 : w3.drew.cell? ⟨w.heap.size, 0, none⟩ = some (.bool f) ∧ w3.drew.cell? ⟨w.heap.size, 1, none⟩ = some (.string r) ∧ w3.drew.cell? ⟨w.heap.size, 2, none⟩ = some (.string b) := ⟨HX4.out.cell 0, HX4.out.cell 1, HX4.out.cell 2⟩
    have HK2 : Hid (∀ w', Below w3.drew.heap.size w3.drew w' → w'.cell? ⟨w.heap.size, 0, none⟩ = some (.bool f) ∧ w'.cell? ⟨w.heap.size, 1, none⟩ = some (.string r) ∧ w'.cell? ⟨w.heap.size, 2, none⟩ = some (.string b)) := by
      intro w' h
      have h3 := HX4.out.below (below_drewT h) HX4.out.lt
      exact ⟨h3.cell 0, h3.cell 1, h3.cell 2⟩
    clear HX4
    generalize wordB f = Z at *
    go_region_held3 (fun w' => w'.cell? ⟨w.heap.size, 0, none⟩ = some (.bool f) ∧ w'.cell? ⟨w.heap.size, 1, none⟩ = some (.string r) ∧ w'.cell? ⟨w.heap.size, 2, none⟩ = some (.string b)) (first | (with_reducible exact K1) | (exact HK2.out _ k6)) (first | (go_at_call 17; refine (HWr.out _).mono ?_; rintro e w6 ⟨rfl, k6⟩) | (go_at_call 18; refine (HWd.out _).mono ?_; rintro e w7 ⟨rfl, rfl⟩))
    go_wp2_with fail
    go_ret2
    exact ⟨by rw [HT6.out]; rfl, HB4.out.trans ((below_drewT k6).mono HB4.out.size)⟩
  · have HT7 := Lib.hid (h7 hE)
    have q : (E != 0) = true := by simpa [bne_iff_ne] using hE
    clear h6 h7 hE
    go_wp2_with fail
    go_ret2
    exact ⟨by rw [HT7.out]; rfl, HB4.out⟩
set_option maxRecDepth 100000 in
set_option maxHeartbeats 8000000 in
theorem hbuild_any (f : Bool) (r b : ByteArray) (w : World) (hr : r.size ≤ 2000) (hb : b.size ≤ 2000) :
    Calls Try.prog 9 #[.agg #[.bool f, .string r, .string b]] w fun e w' => e = .returned (.tuple #[.string (hookT f r.data.toList b.data.toList), .int .i64 (hookE r.data.toList b.data.toList)]) ∧ Below w.heap.size w w' := by
  obtain ⟨A1, A2, A3, A4, A5, A6, ⟨a1, a2, a3, a4, a5, a6⟩, z1, z2, z3, z4, z5, z6, hA6⟩ := hook_parts f r b hr hb
  have HCk := Lib.hid (fun w => hcheck_any f r b w hr hb)
  have HWr := Lib.hid (fun w => rwrite_any r w (by omega))
  have hwz : (strOf (writeJ r.data.toList)).size ≤ 12000 := by
    rw [strOf_size]; have := write_length r.data.toList; have := sz_len r; omega
  have h6 : hookE r.data.toList b.data.toList = 0 → hookT f r.data.toList b.data.toList = A6 := fun h => by rw [hookT_ok h, hA6]
  have h7 : hookE r.data.toList b.data.toList ≠ 0 → hookT f r.data.toList b.data.toList = ⟨#[]⟩ := fun h => hookT_no h
  have HWd := Lib.hid (fun w => word_any f w)
  clear hA6
  have q1 : ¬ 9223372036854775807 < 13 + (strOf (writeJ r.data.toList)).size := by omega
  have q2 : ¬ 9223372036854775807 < A1.size + 12 := by omega
  have q3 : ¬ 9223372036854775807 < A2.size + (wordB f).size := by have : (wordB f).size ≤ 8 := by cases f <;> decide
                                                                   omega
  have q7 : ¬ 9223372036854775807 < A2.size + 6 := by omega
  have q8 : ¬ 9223372036854775807 < A2.size + 8 := by omega
  have q4 : ¬ 9223372036854775807 < A3.size + 9 := by omega
  have q5 : ¬ 9223372036854775807 < A4.size + b.size := by omega
  have q6 : ¬ 9223372036854775807 < A5.size + 1 := by omega
  generalize strOf (writeJ r.data.toList) = X at *
  generalize hookE r.data.toList b.data.toList = E at *
  generalize hookT f r.data.toList b.data.toList = HT at *
  have HX1 := Lib.hid (Blk.new w 23 #[.bool f, .string r, .string b])
  have HB1 := Lib.hid ((Below.refl w.heap.size w).alloc (Nat.le_refl _) (.cells #[.bool f, .string r, .string b] 23))
  go_enter Try.func9, Try.ntmps9
  go_upto_region 1 with fail
  generalize hW : w.alloc (.cells #[.bool f, .string r, .string b] 23) = W1 at *
  clear hW
  have x0 := HX1.out.cell 0
  have x1 := HX1.out.cell 1
  have x2 := HX1.out.cell 2
  go_wp2_with fail
  refine (HCk.out _).mono ?_
  rintro e w3 ⟨rfl, b3⟩
  have HX4 := Lib.hid (HX1.out.below b3 HX1.out.lt)
  have HB4 := Lib.hid (HB1.out.trans (b3.mono HB1.out.size))
  clear b3 HX1 HB1 x0 x1 x2
  by_cases hE : E = 0
  · have HT6 := Lib.hid (h6 hE)
    subst hE
    clear h6 h7
    have x0 := HX4.out.cell 0
    cases f
    all_goals
      simp only [wordB, if_true, if_false, Bool.false_eq_true] at a3
      go_upto_region 7 with fail
      have K1 : w3.drew.cell? ⟨w.heap.size, 1, none⟩ = some (.string r) ∧ w3.drew.cell? ⟨w.heap.size, 2, none⟩ = some (.string b) := ⟨HX4.out.cell 1, HX4.out.cell 2⟩
      have HK2 : Hid (∀ w', Below w3.drew.heap.size w3.drew w' → w'.cell? ⟨w.heap.size, 1, none⟩ = some (.string r) ∧ w'.cell? ⟨w.heap.size, 2, none⟩ = some (.string b)) := by
        intro w' h
        have h3 := HX4.out.below (below_drewT h) HX4.out.lt
        exact ⟨h3.cell 1, h3.cell 2⟩
      clear HX4 x0
      go_region_held3 (fun w' => w'.cell? ⟨w.heap.size, 1, none⟩ = some (.string r) ∧ w'.cell? ⟨w.heap.size, 2, none⟩ = some (.string b)) (first | (with_reducible exact K1) | (exact HK2.out _ k6)) ((go_at_call 20; refine (HWr.out _).mono ?_; rintro e w6 ⟨rfl, k6⟩))
      go_wp2_with fail
      go_ret2
      exact ⟨by rw [HT6.out]; rfl, HB4.out.trans ((below_drewT k6).mono HB4.out.size)⟩
  · have HT7 := Lib.hid (h7 hE)
    have q : (E != 0) = true := by simpa [bne_iff_ne] using hE
    clear h6 h7 hE
    go_wp2_with fail
    go_ret2
    exact ⟨by rw [HT7.out]; rfl, HB4.out⟩
end Go.Proofs.Ytdfnlcigbmiafaa

/- Plain: what is written of a hook is a map of three members (chapter 37). -/
namespace Go.Proofs.Ytdfnlcigbmiafaa
set_option linter.unusedVariables false
set_option linter.unusedSimpArgs false
def tRec : List UInt8 := [114, 101, 99, 101, 105, 118, 101, 114]
def tStat : List UInt8 := [115, 116, 97, 116, 117, 115]
def tBody : List UInt8 := [98, 111, 100, 121]
theorem shiftT_comp (a b : Nat) (ts : List Tok) : (ts.map (shiftT a)).map (shiftT b) = ts.map (shiftT (b + a)) := by
  rw [List.map_map]
  exact List.map_congr_left fun t _ => by simp [shiftT, Nat.add_assoc]
/-- A text that is just these tokens, whatever stands behind it. -/
def Pre (p : List UInt8) (ts : List Tok) : Prop := ∀ t, toks (p ++ t) = (toks t).map fun us => ts ++ us.map (shiftT p.length)
theorem pre_mark {c : UInt8} (hc : markK c.toNat) : Pre [c] [⟨c.toNat, [], 0, 1⟩] := fun t => by
  show toks (c :: t) = _
  rw [toks_mark hc, Option.map_map]; rfl
theorem pre_str {u : List UInt8} (hu : joined (runes u) = u) : Pre (34 :: (writeJ u ++ [34])) [⟨34, u, 0, (writeJ u).length + 2⟩] := fun t => by
  have e : 34 :: (writeJ u ++ [34]) ++ t = 34 :: (writeJ u ++ 34 :: t) := by simp
  rw [e, toks_str hu, Option.map_map]
  have e2 : (34 :: (writeJ u ++ [34])).length = (writeJ u).length + 2 := by simp
  rw [e2]; rfl
theorem Pre.append {p q : List UInt8} {ts us : List Tok} (hp : Pre p ts) (hq : Pre q us) : Pre (p ++ q) (ts ++ us.map (shiftT p.length)) := fun t => by
  rw [List.append_assoc, hp, hq, Option.map_map]
  congr 1
  funext vs
  show ts ++ (us ++ vs.map (shiftT q.length)).map (shiftT p.length) = _
  rw [List.map_append, shiftT_comp, List.length_append, List.append_assoc]
/-- All of a hook's text ahead of its body. -/
def preH (f : Bool) (r : List UInt8) : List UInt8 := opensL ++ writeJ r ++ statL ++ wordL f ++ bodyL
theorem preH_eq (f : Bool) (r : List UInt8) : preH f r = ((((((((([123] ++ (34 :: (writeJ tRec ++ [34]))) ++ [58]) ++ (34 :: (writeJ r ++ [34]))) ++ [44]) ++ (34 :: (writeJ tStat ++ [34]))) ++ [58]) ++ (34 :: (writeJ (wordL f) ++ [34]))) ++ [44]) ++ (34 :: (writeJ tBody ++ [34]))) ++ [58] := by
  have e1 : writeJ tRec = tRec := by rfl
  have e2 : writeJ tStat = tStat := by rfl
  have e3 : writeJ tBody = tBody := by rfl
  have e4 : writeJ (wordL f) = wordL f := by cases f <;> rfl
  rw [e1, e2, e3, e4]
  unfold preH opensL statL bodyL tRec tStat tBody
  simp
theorem pre_hook (f : Bool) {r : List UInt8} (hr : joined (runes r) = r) : ∃ a0 b0 a1 b1 a2 b2 a3 b3 a4 b4 a5 b5 a6 b6 a7 b7 a8 b8 a9 b9 a10 b10 : Nat, Pre (preH f r) [⟨123, [], a0, b0⟩, ⟨34, tRec, a1, b1⟩, ⟨58, [], a2, b2⟩, ⟨34, r, a3, b3⟩, ⟨44, [], a4, b4⟩, ⟨34, tStat, a5, b5⟩, ⟨58, [], a6, b6⟩, ⟨34, wordL f, a7, b7⟩, ⟨44, [], a8, b8⟩, ⟨34, tBody, a9, b9⟩, ⟨58, [], a10, b10⟩] ∧ b10 = (preH f r).length := by
  have j1 : joined (runes tRec) = tRec := by rfl
  have j2 : joined (runes tStat) = tStat := by rfl
  have j3 : joined (runes tBody) = tBody := by rfl
  have j4 : joined (runes (wordL f)) = wordL f := by cases f <;> rfl
  have m1 := pre_mark (c := 123) (by decide)
  have m2 := pre_mark (c := 58) (by decide)
  have m3 := pre_mark (c := 44) (by decide)
  have h := (((((((((m1.append (pre_str j1)).append m2).append (pre_str hr)).append m3).append (pre_str j2)).append m2).append (pre_str j4)).append m3).append (pre_str j3)).append m2
  rw [← preH_eq] at h
  simp only [List.map_cons, List.map_nil, shiftT, List.singleton_append, List.cons_append, List.nil_append] at h
  refine ⟨_, _, _, _, _, _, _, _, _, _, _, _, _, _, _, _, _, _, _, _, _, _, h, ?_⟩
  rw [preH_eq]
  simp
  try omega
theorem hookL_pre (f : Bool) (r b : List UInt8) : hookL f r b = preH f r ++ (b ++ [125]) := by
  unfold hookL preH; rw [List.append_assoc]
theorem val_str {W : List Tok} {f k a b : Nat} {t : List UInt8} (h : W[k]? = some ⟨34, t, a, b⟩) : valI (f + 1) W k = some (.mk 34 t [] [], k + 1) := by
  rw [valI_at h, if_pos (.inl rfl)]
theorem elems_comma {val : Nat → Option (Node × Nat)} {ts : List Tok} {E g k k2 : Nat} {ks : List (List UInt8)} {ns : List Node} {n : Node} (h1 : isK ts k 34 = true) (h2 : isK ts (k + 1) 58 = true) (hv : val (k + 2) = some (n, k2)) (h3 : isK ts k2 E = false) (h4 : isK ts k2 44 = true) :
    elems val ts true E (g + 1) k ks ns = elems val ts true E g (k2 + 1) (ks ++ [txt ts k]) (ns ++ [n]) := by
  rw [elems, if_neg (fun x => x.2 ⟨h1, h2⟩), if_pos rfl, hv]
  dsimp only
  rw [if_neg (by rw [h3]; decide), if_pos h4, if_pos rfl]
theorem elems_last {val : Nat → Option (Node × Nat)} {ts : List Tok} {E g k k2 : Nat} {ks : List (List UInt8)} {ns : List Node} {n : Node} (h1 : isK ts k 34 = true) (h2 : isK ts (k + 1) 58 = true) (hv : val (k + 2) = some (n, k2)) (h3 : isK ts k2 E = true) :
    elems val ts true E (g + 1) k ks ns = some (ks ++ [txt ts k], ns ++ [n], k2 + 1) := by
  rw [elems, if_neg (fun x => x.2 ⟨h1, h2⟩), if_pos rfl, hv]
  dsimp only
  rw [if_pos h3, if_pos rfl]
/-- What is written of a hook, as a tree. -/
def hookN (f : Bool) (r : List UInt8) (n : Node) : Node := .mk 123 [] [tRec, tStat, tBody] [.mk 34 r [] [], .mk 34 (wordL f) [] [], n]
/-- The tokens of a hook's text, and its tree. -/
theorem hook_read (f : Bool) {r b : List UInt8} {n : Node} {ts : List Tok} (hr : joined (runes r) = r) (ht : toks b = some ts) (hv : val ts = some (n, ts.length)) (hd : deepN n < 32) :
    (∃ (a0 b0 a1 b1 a2 b2 a3 b3 a4 b4 a5 b5 a6 b6 a7 b7 a8 b8 a9 b9 a10 b10 : Nat) (us : List Tok) (z : Tok), us = ts.map (shiftT (preH f r).length) ∧ z.kind = 125 ∧ b10 = (preH f r).length ∧ toks (hookL f r b) = some ([⟨123, [], a0, b0⟩, ⟨34, tRec, a1, b1⟩, ⟨58, [], a2, b2⟩, ⟨34, r, a3, b3⟩, ⟨44, [], a4, b4⟩, ⟨34, tStat, a5, b5⟩, ⟨58, [], a6, b6⟩, ⟨34, wordL f, a7, b7⟩, ⟨44, [], a8, b8⟩, ⟨34, tBody, a9, b9⟩, ⟨58, [], a10, b10⟩] ++ us ++ [z])) ∧ parseJ (hookL f r b) = .ok (hookN f r n) := by
  obtain ⟨a0, b0, a1, b1, a2, b2, a3, b3, a4, b4, a5, b5, a6, b6, a7, b7, a8, b8, a9, b9, a10, b10, hP, hb10⟩ := pre_hook f hr
  have h1 : toks (b ++ [125]) = some (ts ++ [⟨125, [], b.length, b.length + 1⟩]) := by
    rw [toks_app (by decide) ht, toks_mark (by decide)]; rfl
  have h2 : toks (hookL f r b) = some ([⟨123, [], a0, b0⟩, ⟨34, tRec, a1, b1⟩, ⟨58, [], a2, b2⟩, ⟨34, r, a3, b3⟩, ⟨44, [], a4, b4⟩, ⟨34, tStat, a5, b5⟩, ⟨58, [], a6, b6⟩, ⟨34, wordL f, a7, b7⟩, ⟨44, [], a8, b8⟩, ⟨34, tBody, a9, b9⟩, ⟨58, [], a10, b10⟩] ++ ts.map (shiftT (preH f r).length) ++ [shiftT (preH f r).length ⟨125, [], b.length, b.length + 1⟩]) := by
    rw [hookL_pre, hP, h1]
    simp
  obtain ⟨us, hus⟩ : ∃ us, us = ts.map (shiftT (preH f r).length) := ⟨_, rfl⟩
  obtain ⟨z, hz⟩ : ∃ z, z = shiftT (preH f r).length ⟨125, [], b.length, b.length + 1⟩ := ⟨_, rfl⟩
  rw [← hus, ← hz] at h2
  have hzk : z.kind = 125 := by rw [hz]; rfl
  refine ⟨⟨a0, b0, a1, b1, a2, b2, a3, b3, a4, b4, a5, b5, a6, b6, a7, b7, a8, b8, a9, b9, a10, b10, us, z, hus, hzk, hb10, h2⟩, ?_⟩
  have hlen : us.length = ts.length := by rw [hus, List.length_map]
  have hvu : valI (ts.length + 1) us 0 = some (n, us.length) := by
    rw [hus, val_shift (shiftT (preH f r).length) (fun t => ⟨rfl, rfl⟩), List.length_map]; exact hv
  obtain ⟨pre, hpre⟩ : ∃ pre : List Tok, pre = [⟨123, [], a0, b0⟩, ⟨34, tRec, a1, b1⟩, ⟨58, [], a2, b2⟩, ⟨34, r, a3, b3⟩, ⟨44, [], a4, b4⟩, ⟨34, tStat, a5, b5⟩, ⟨58, [], a6, b6⟩, ⟨34, wordL f, a7, b7⟩, ⟨44, [], a8, b8⟩, ⟨34, tBody, a9, b9⟩, ⟨58, [], a10, b10⟩] := ⟨_, rfl⟩
  have hpl : pre.length = 11 := by rw [hpre]; rfl
  have hx := val_ext (pre := pre) (post := [z]) _ _ _ _ hvu
  rw [hpl, Nat.add_zero] at hx
  rw [← hpre] at h2
  obtain ⟨W, hW⟩ : ∃ W, pre ++ us ++ [z] = W := ⟨_, rfl⟩
  rw [hW] at hx h2
  have hWl : W.length = us.length + 12 := by rw [← hW]; simp [hpl]; omega
  have hWi : ∀ i, i < 11 → W[i]? = pre[i]? := fun i hi => by rw [← hW, List.append_assoc, List.getElem?_append_left (by omega)]
  have hK : ∀ i c, i < 11 → isK W i c = isK pre i c := fun i c hi => by unfold isK; rw [hWi i hi]
  have hT : ∀ i, i < 11 → txt W i = txt pre i := fun i hi => by unfold txt; rw [hWi i hi]
  have hWz : isK W (11 + us.length) 125 = true := by
    unfold isK; rw [← hW, List.getElem?_append_right (by simp [hpl])]; simp [hpl, hzk]
  have hxx : valI W.length W 11 = some (n, 11 + us.length) := val_up (ts.length + 1) _ _ _ _ (by omega) hx
  obtain ⟨g, hg⟩ : ∃ g, W.length = g + 1 + 1 + 1 := ⟨W.length - 3, by omega⟩
  have w0 : W[0]? = some ⟨123, [], a0, b0⟩ := by rw [hWi 0 (by omega), hpre]; rfl
  have w3 : W[3]? = some ⟨34, r, a3, b3⟩ := by rw [hWi 3 (by omega), hpre]; rfl
  have w7 : W[7]? = some ⟨34, wordL f, a7, b7⟩ := by rw [hWi 7 (by omega), hpre]; rfl
  have v3 : valI W.length W 3 = some (.mk 34 r [] [], 4) := by rw [hg]; exact val_str w3
  have v7 : valI W.length W 7 = some (.mk 34 (wordL f) [] [], 8) := by rw [hg]; exact val_str w7
  have kk : ∀ i c v, i < 11 → isK pre i c = v → isK W i c = v := fun i c v hi h => (hK i c hi).trans h
  have he : elems (fun j => valI W.length W j) W true 125 W.length 1 [] [] = some ([tRec, tStat, tBody], [.mk 34 r [] [], .mk 34 (wordL f) [] [], n], W.length) := by
    rw [show elems (fun j => valI W.length W j) W true 125 W.length 1 [] [] = elems (fun j => valI W.length W j) W true 125 (g + 1 + 1 + 1) 1 [] [] from by rw [← hg]]
    rw [elems_comma (k2 := 4) (kk 1 34 true (by omega) (by rw [hpre]; rfl)) (kk 2 58 true (by omega) (by rw [hpre]; rfl)) v3 (kk 4 125 false (by omega) (by rw [hpre]; rfl)) (kk 4 44 true (by omega) (by rw [hpre]; rfl))]
    rw [elems_comma (k2 := 8) (kk 5 34 true (by omega) (by rw [hpre]; rfl)) (kk 6 58 true (by omega) (by rw [hpre]; rfl)) v7 (kk 8 125 false (by omega) (by rw [hpre]; rfl)) (kk 8 44 true (by omega) (by rw [hpre]; rfl))]
    rw [elems_last (k2 := 11 + us.length) (kk 9 34 true (by omega) (by rw [hpre]; rfl)) (kk 10 58 true (by omega) (by rw [hpre]; rfl)) hxx hWz]
    rw [hT 1 (by omega), hT 5 (by omega), hT 9 (by omega), hpre]
    simp only [txt, List.getElem?_cons_succ, List.getElem?_cons_zero, List.nil_append, List.cons_append, Option.some.injEq, Prod.mk.injEq, true_and]
    omega
  have hvW : val W = some (hookN f r n, W.length) := by
    unfold val
    rw [valI_at w0, if_neg (show ¬ ((123 : Nat) = 34 ∨ (123 : Nat) = 48 ∨ (123 : Nat) = 97) from by decide), if_neg (show ¬ ((123 : Nat) ≠ 91 ∧ (123 : Nat) ≠ 123) from by decide)]
    rw [if_neg (show ¬ isK W (0 + 1) (if (⟨123, [], a0, b0⟩ : Tok).kind = 123 then 125 else 93) = true from by
      rw [show isK W (0 + 1) (if (⟨123, [], a0, b0⟩ : Tok).kind = 123 then 125 else 93) = false from kk 1 125 false (by omega) (by rw [hpre]; rfl)]; decide)]
    rw [show elems (fun j => valI W.length W j) W (decide ((⟨123, [], a0, b0⟩ : Tok).kind = 123)) (if (⟨123, [], a0, b0⟩ : Tok).kind = 123 then 125 else 93) W.length (0 + 1) [] [] = _ from he]
    rfl
  unfold parseJ
  rw [h2]
  dsimp only
  rw [hvW]
  dsimp only
  rw [if_pos rfl, if_neg (by simp [hookN, deepN, deepL]; omega)]
theorem parse_inv {b : List UInt8} {n : Node} (h : parseJ b = .ok n) : ∃ ts, toks b = some ts ∧ val ts = some (n, ts.length) ∧ deepN n ≤ 32 := by
  unfold parseJ at h
  split at h
  · cases h
  · rename_i ts htk
    split at h
    · cases h
    · rename_i m k hv
      split at h
      · rename_i hk
        split at h
        · cases h
        · rename_i hd
          cases h
          subst hk
          exact ⟨ts, htk, hv, by omega⟩
      · cases h
theorem hook_parse (f : Bool) {r b : List UInt8} {n : Node} (hr : clean r = r) (hp : parseJ b = .ok n) (hd : deepN n < 32) : parseJ (hookL f r b) = .ok (hookN f r n) := by
  obtain ⟨ts, h1, h2, _⟩ := parse_inv hp
  exact (hook_read f (joined_good _ _ (Nat.le_refl _) (by rw [← hr]; exact clean_good r)) h1 h2 hd).2
end Go.Proofs.Ytdfnlcigbmiafaa

/- Plain: tokens rise, and between them are blanks (chapter 10). -/
namespace Go.Proofs.Ytdfnlcigbmiafaa
set_option linter.unusedVariables false
set_option linter.unusedSimpArgs false
def Rising (l : List UInt8) : Nat → List Tok → Prop
  | _, [] => True
  | k, t :: r => k ≤ t.frm ∧ t.frm < t.to ∧ t.to ≤ l.length ∧ (∀ j, k ≤ j → j < t.frm → blankK (bt l j)) ∧ Rising l t.to r
theorem toksF_rise : ∀ (f : Nat) (l : List UInt8) (k : Nat) (ts : List Tok), toksF f l k = some ts → Rising l k ts
  | 0, l, k, ts, h => by unfold toksF at h; cases h; trivial
  | f + 1, l, k, ts, h => by
    unfold toksF at h
    split at h
    · cases h; trivial
    · split at h
      · rename_i h1 hb
        have hr := toksF_rise f l (k + 1) ts h
        cases ts with
        | nil => trivial
        | cons t r =>
          obtain ⟨a, b, c, d, e⟩ := hr
          refine ⟨by omega, b, c, fun j hj1 hj2 => ?_, e⟩
          by_cases hj : j = k
          · subst hj; exact hb
          · exact d j (by omega) hj2
      · split at h
        · cases h
        · rename_i h1 h2 t ho
          have hb := oneT_bd (by omega) ho
          cases hr : toksF f l t.to with
          | none => rw [hr] at h; cases h
          | some r =>
            rw [hr] at h
            cases h
            exact ⟨by omega, by omega, hb.2.2.1, fun j hj1 hj2 => by omega, toksF_rise f l t.to r hr⟩
end Go.Proofs.Ytdfnlcigbmiafaa

/- Plain: what a text is read as: the program's way and the document's are the same (chapter 37). -/
namespace Go.Proofs.Ytdfnlcigbmiafaa
set_option linter.unusedVariables false
set_option linter.unusedSimpArgs false
theorem oneJ_len {l : List UInt8} {r n : Nat} (h : oneJ l = some (r, n)) : (enc (r : Int)).length ≤ n := by
  have h4 := (enc_length (r : Int)).1
  unfold oneJ at h
  split at h
  · cases h
  rename_i hne
  split at h
  · unfold escJ at h
    split at h
    · simp only [Option.some.injEq, Prod.mk.injEq] at h
      obtain ⟨rfl, rfl⟩ := h
      have hlt : letR (bt l 1) < 128 := by
        unfold letR
        split
        · omega
        repeat' (split; omega)
        omega
      have : enc ((letR (bt l 1) : Nat) : Int) = [UInt8.ofNat (letR (bt l 1))] := by
        unfold enc encN
        rw [show rune ((letR (bt l 1) : Nat) : Int) = letR (bt l 1) from by unfold rune; rw [if_pos (by unfold isRune; omega)]; rfl, if_pos hlt]; rfl
      rw [this]; simp
    · split at h
      · cases h
      · split at h
        · cases h
        · split at h
          · split at h
            · cases h
            · split at h
              · simp only [Option.some.injEq, Prod.mk.injEq] at h; omega
              · cases h
          · simp only [Option.some.injEq, Prod.mk.injEq] at h; omega
  split at h
  · cases h
  rename_i h2
  simp only [Option.some.injEq] at h
  rcases next_cases hne with h3 | h3
  · exact absurd (.inr (.inr ⟨by rw [h3], by rw [h3]⟩)) h2
  · rw [h] at h3
    rw [h3.1, List.length_take]; omega
theorem readJ_len : ∀ (m : Nat) (l r : List UInt8), l.length ≤ m → readJ l = some r → r.length ≤ l.length
  | m, [], r, _, h => by rw [readJ_nil] at h; cases h; simp
  | 0, _ :: _, _, hl, _ => by simp at hl
  | m + 1, a :: t, r, hl, h => by
    have h0 : a :: t ≠ [] := by simp
    cases ho : oneJ (a :: t) with
    | none => rw [readJ_none h0 ho] at h; cases h
    | some p =>
      obtain ⟨q, n⟩ := p
      have hb := oneJ_bound ho
      have he := oneJ_len ho
      rw [readJ_some h0 ho] at h
      cases hr : readJ ((a :: t).drop n) with
      | none => rw [hr] at h; cases h
      | some u =>
        rw [hr] at h
        cases h
        have := readJ_len m _ u (by rw [List.length_drop]; simp only [List.length_cons] at *; omega) hr
        rw [List.length_drop] at this
        rw [List.length_append]
        omega
theorem bt_right (a b : List UInt8) (i : Nat) : bt (a ++ b) (a.length + i) = bt b i := by
  rw [← bt_drop, List.drop_left]
/-- A quotation mark stands behind a backslash. -/
def quoK (x : List UInt8) : Prop := ∀ j, j < x.length → bt x j = 34 → 0 < j ∧ bt x (j - 1) = 92
theorem quoK_app {a b : List UInt8} (ha : quoK a) (hb : quoK b) : quoK (a ++ b) := fun j hj h => by
  rcases Nat.lt_or_ge j a.length with h1 | h1
  · rw [bt_app h1] at h
    have h2 := ha j h1 h
    exact ⟨h2.1, by rw [bt_app (by omega)]; exact h2.2⟩
  · obtain ⟨i, rfl⟩ : ∃ i, j = a.length + i := ⟨j - a.length, by omega⟩
    rw [bt_right] at h
    rw [List.length_append] at hj
    have h2 := hb i (by omega) h
    refine ⟨by omega, ?_⟩
    rw [show a.length + i - 1 = a.length + (i - 1) by omega, bt_right]
    exact h2.2
theorem quoK_none {x : List UInt8} (h : ∀ b ∈ x, b.toNat ≠ 34) : quoK x := fun j hj h2 => by
  have h3 := h (x[j]) (List.getElem_mem hj)
  rw [bt_get hj] at h3
  exact absurd h2 h3
theorem enc_quote {n : Nat} (hr : isRune (n : Int)) (h : n ≠ 34) : ∀ b ∈ enc (n : Int), b.toNat ≠ 34 := by
  have hn : rune (n : Int) = n := by unfold rune; rw [if_pos hr]; rfl
  have hn2 : n ≤ 1114111 := by unfold isRune at hr; omega
  intro b hb
  unfold enc at hb
  rw [hn, List.mem_map] at hb
  obtain ⟨y, hy, rfl⟩ := hb
  unfold encN at hy
  have hyy : y ≠ 34 ∧ y < 256 := by
    split at hy
    · simp at hy; omega
    split at hy
    · simp at hy; omega
    split at hy
    · simp at hy; omega
    · simp at hy; omega
  rw [of8 hyy.2]; exact hyy.1
theorem quoK_wr {n : Nat} (hr : isRune (n : Int)) : quoK (wrJ n) := by
  by_cases h : letN n = 0
  · by_cases h2 : longN n
    · rw [wrJ_long h h2]
      have hn := longN_lt h2
      refine quoK_none fun b hb => ?_
      have hd : ∀ x, x < 16 → (UInt8.ofNat (hexd x)).toNat ≠ 34 := fun x hx => by
        have := hexd_lt x hx
        rw [of8 (by omega)]; omega
      simp only [List.mem_cons, List.not_mem_nil, or_false] at hb
      rcases hb with rfl | rfl | rfl | rfl | rfl | rfl
      · decide
      · decide
      · exact hd _ (by omega)
      · exact hd _ (by omega)
      · exact hd _ (by omega)
      · exact hd _ (by omega)
    · rw [wrJ_self h h2]
      exact quoK_none (enc_quote hr (letN_special h).1)
  · rw [wrJ_short h]
    intro j hj h3
    match j, hj with
    | 0, _ => exact absurd (show (92 : Nat) = 34 from h3) (by decide)
    | 1, _ => exact ⟨by omega, rfl⟩
    | j + 2, hj => simp at hj; omega
theorem quoK_wrs : ∀ rs : List Nat, (∀ r ∈ rs, isRune (r : Int)) → quoK (rs.flatMap wrJ)
  | [], _ => fun j hj _ => by simp at hj
  | r :: rs, h => by
    rw [List.flatMap_cons]
    exact quoK_app (quoK_wr (h r (by simp))) (quoK_wrs rs fun x hx => h x (by simp [hx]))
theorem quoK_write (l : List UInt8) : quoK (writeJ l) := quoK_wrs _ (runes_rune _ l (Nat.le_refl _))
theorem occ_bt {s sub : List UInt8} {i j : Nat} (h : Lib.occAt s sub i = true) (hj : j < sub.length) : bt s (i + j) = bt sub j := by
  unfold Lib.occAt at h
  obtain ⟨y, hy⟩ := List.isPrefixOf_iff_prefix.1 h
  rw [← bt_drop, ← hy, bt_app hj]
theorem index_hook (r y : List UInt8) : Lib.index (writeJ r ++ (statL ++ y)) statL = (writeJ r).length := by
  refine Lib.index_first (by simp) ?_ ?_
  · unfold Lib.occAt
    rw [List.drop_left, List.isPrefixOf_iff_prefix]
    exact ⟨y, rfl⟩
  · intro j hj
    rw [Bool.eq_false_iff]
    intro h
    have h1 := occ_bt h (j := 1) (by decide)
    have h2 := occ_bt h (j := 2) (by decide)
    have h3 := occ_bt h (j := 3) (by decide)
    have e1 : bt statL 1 = 44 := rfl
    have e2 : bt statL 2 = 34 := rfl
    have e3 : bt statL 3 = 115 := rfl
    rw [e1] at h1; rw [e2] at h2; rw [e3] at h3
    rcases Nat.lt_or_ge (j + 1) (writeJ r).length with h4 | h4
    · rw [bt_app h4] at h1
      rcases Nat.lt_or_ge (j + 2) (writeJ r).length with h5 | h5
      · rw [bt_app h5] at h2
        have h6 := (quoK_write r (j + 2) h5 h2).2
        rw [show j + 2 - 1 = j + 1 by omega, h1] at h6
        exact absurd h6 (by decide)
      · rw [show j + 3 = (writeJ r).length + 1 by omega, bt_right] at h3
        have e : bt (statL ++ y) 1 = 44 := rfl
        rw [e] at h3; exact absurd h3 (by decide)
    · rw [show j + 1 = (writeJ r).length + 0 by omega, bt_right] at h1
      have e : bt (statL ++ y) 0 = 34 := rfl
      rw [e] at h1; exact absurd h1 (by decide)
/-- The program's way. -/
def recvP (l : List UInt8) : Option (List UInt8 × List UInt8) :=
  if Lib.hasPrefix l opensL = true then
    if Lib.index (l.drop 13) statL < 0 then none
    else (readJ ((l.drop 13).take (Lib.index (l.drop 13) statL).toNat)).map fun r => (r, (l.drop 13).drop (Lib.index (l.drop 13) statL).toNat)
  else none
def statP (x : List UInt8) : Option (Bool × List UInt8) :=
  if Lib.hasPrefix x (statL ++ wordL true) = true then some (true, x.drop 18)
  else if Lib.hasPrefix x (statL ++ wordL false) = true then some (false, x.drop 20) else none
def bodyP (x : List UInt8) : Option (List UInt8) :=
  if Lib.hasPrefix x bodyL = true then (if Lib.hasSuffix (x.drop 9) [125] = true then some ((x.drop 9).take ((x.drop 9).length - 1)) else none) else none
def sureP (l : List UInt8) (f : Bool) (r b : List UInt8) : Option (Bool × List UInt8 × List UInt8) := if hookE r b = 0 ∧ hookL f r b = l then some (f, r, b) else none
def readP (l : List UInt8) : Option (Bool × List UInt8 × List UInt8) :=
  match recvP l with
  | none => none
  | some (r, x) => match statP x with
    | none => none
    | some (f, y) => match bodyP y with
      | none => none
      | some b => sureP l f r b
theorem sureP_some {l : List UInt8} {f : Bool} {r b : List UInt8} {p : Bool × List UInt8 × List UInt8} (h : sureP l f r b = some p) : hookE p.2.1 p.2.2 = 0 ∧ hookL p.1 p.2.1 p.2.2 = l := by
  unfold sureP at h
  split at h
  · rename_i h1; cases h; exact h1
  · cases h
theorem readP_some {l : List UInt8} {p : Bool × List UInt8 × List UInt8} (h : readP l = some p) : hookE p.2.1 p.2.2 = 0 ∧ hookL p.1 p.2.1 p.2.2 = l := by
  unfold readP at h
  split at h
  · cases h
  · split at h
    · cases h
    · split at h
      · cases h
      · exact sureP_some h
theorem hasPre37 (a b : List UInt8) : Lib.hasPrefix (a ++ b) a = true := by
  unfold Lib.hasPrefix; rw [List.isPrefixOf_iff_prefix]; exact ⟨b, rfl⟩
theorem hasSuf37 (a b : List UInt8) : Lib.hasSuffix (a ++ b) b = true := by
  unfold Lib.hasSuffix; rw [List.isSuffixOf_iff_suffix]; exact ⟨a, rfl⟩
theorem hookE_clean {r b : List UInt8} (h : hookE r b = 0) : clean r = r := by
  unfold hookE at h
  by_cases hc : clean r = r
  · exact hc
  · rw [if_pos (.inl hc)] at h; exact absurd h (by decide)
theorem good_join {r : List UInt8} (h : clean r = r) : joined (runes r) = r := joined_good _ _ (Nat.le_refl _) (by rw [← h]; exact clean_good r)
theorem readP_back {f : Bool} {r b : List UInt8} (h : hookE r b = 0) : readP (hookL f r b) = some (f, r, b) := by
  have hj := good_join (hookE_clean h)
  have e1 : hookL f r b = opensL ++ (writeJ r ++ (statL ++ (wordL f ++ (bodyL ++ (b ++ [125]))))) := by unfold hookL; simp [List.append_assoc]
  have h1 : recvP (hookL f r b) = some (r, statL ++ (wordL f ++ (bodyL ++ (b ++ [125])))) := by
    have hd : (opensL ++ (writeJ r ++ (statL ++ (wordL f ++ (bodyL ++ (b ++ [125])))))).drop 13 = writeJ r ++ (statL ++ (wordL f ++ (bodyL ++ (b ++ [125])))) := rfl
    unfold recvP
    rw [e1, if_pos (hasPre37 _ _), hd, index_hook, if_neg (by omega)]
    rw [show ((writeJ r).length : Int).toNat = (writeJ r).length from by omega, List.take_left, List.drop_left, read_write, hj]; rfl
  have h2 : statP (statL ++ (wordL f ++ (bodyL ++ (b ++ [125])))) = some (f, bodyL ++ (b ++ [125])) := by
    unfold statP
    cases f
    · rw [if_neg (by rw [Bool.not_eq_true]; rfl), if_pos (by rw [← List.append_assoc]; exact hasPre37 _ _)]; rfl
    · rw [if_pos (by rw [← List.append_assoc]; exact hasPre37 _ _)]; rfl
  have h3 : bodyP (bodyL ++ (b ++ [125])) = some b := by
    have hd : (bodyL ++ (b ++ [125])).drop 9 = b ++ [125] := rfl
    unfold bodyP
    rw [if_pos (hasPre37 _ _), hd, if_pos (hasSuf37 _ _)]
    simp
  unfold readP
  rw [h1]; dsimp only
  rw [h2]; dsimp only
  rw [h3]; dsimp only
  unfold sureP
  rw [if_pos ⟨h, rfl⟩]
/-- The document's way. -/
def bAt (ts : List Tok) (i : Nat) : Bool := isK ts i 34 && decide (txt ts i = tBody) && isK ts (i + 1) 58
def firstB (ts : List Tok) : Option Nat := (List.range ts.length).find? (bAt ts)
def toAt (ts : List Tok) (i : Nat) : Nat := match ts[i]? with | some t => t.to | none => 0
def kidT (n : Node) (i : Nat) : List UInt8 := match n.kids[i]? with | some k => k.text | none => []
def tokL (l : List UInt8) : List Tok := (toks l).getD []
def bodyR (l : List UInt8) (j : Nat) : List UInt8 := (l.take (l.length - 1)).drop (toAt (tokL l) (j + 1))
def readR (l : List UInt8) : Option (Bool × List UInt8 × List UInt8) :=
  match parseJ l with
  | .error _ => none
  | .ok n => if n.kind = 123 ∧ n.kids.length = 3 then
      (match firstB (tokL l) with
      | none => none
      | some j => sureP l (decide (kidT n 1 = wordL true)) (kidT n 0) (bodyR l j))
    else none
theorem readR_some {l : List UInt8} {p : Bool × List UInt8 × List UInt8} (h : readR l = some p) : hookE p.2.1 p.2.2 = 0 ∧ hookL p.1 p.2.1 p.2.2 = l := by
  unfold readR at h
  split at h
  · cases h
  · split at h
    · split at h
      · cases h
      · exact sureP_some h
    · cases h
theorem first_some {ts : List Tok} {j : Nat} (hj : j < ts.length) (h : bAt ts j = true) (hn : ∀ i, i < j → bAt ts i = false) : firstB ts = some j := by
  unfold firstB
  rw [List.find?_range_eq_some]
  exact ⟨h, List.mem_range.2 hj, fun i hi => by rw [hn i hi]; rfl⟩
theorem readR_back {f : Bool} {r b : List UInt8} (h : hookE r b = 0) : readR (hookL f r b) = some (f, r, b) := by
  have hcl := hookE_clean h
  have hj := good_join hcl
  obtain ⟨n, _, hn, _⟩ := parse_two b
  have hok : errJ b = 0 ∧ deepN n < 32 := by
    rcases hook_cases r b n hn with x | x | x | x | x
    · exact absurd hcl x.1
    · rw [h] at x; exact absurd x.2.2 (by decide)
    · rw [h] at x; exact absurd x.2.2.2 (by decide)
    · rw [h] at x; exact absurd x.2.2.2.2 (by decide)
    · exact ⟨x.2.1, x.2.2.1⟩
  obtain ⟨ts, ht, hv, _⟩ := parse_inv (hn hok.1)
  obtain ⟨⟨a0, b0, a1, b1, a2, b2, a3, b3, a4, b4, a5, b5, a6, b6, a7, b7, a8, b8, a9, b9, a10, b10, us, z, hus, hzk, hb10, htk⟩, hp⟩ := hook_read f hj ht hv hok.2
  obtain ⟨W, hW⟩ : ∃ W, [⟨123, [], a0, b0⟩, ⟨34, tRec, a1, b1⟩, ⟨58, [], a2, b2⟩, ⟨34, r, a3, b3⟩, ⟨44, [], a4, b4⟩, ⟨34, tStat, a5, b5⟩, ⟨58, [], a6, b6⟩, ⟨34, wordL f, a7, b7⟩, ⟨44, [], a8, b8⟩, ⟨34, tBody, a9, b9⟩, ⟨58, [], a10, b10⟩] ++ us ++ [z] = W := ⟨_, rfl⟩
  obtain ⟨pre, hpre⟩ : ∃ pre : List Tok, pre = [⟨123, [], a0, b0⟩, ⟨34, tRec, a1, b1⟩, ⟨58, [], a2, b2⟩, ⟨34, r, a3, b3⟩, ⟨44, [], a4, b4⟩, ⟨34, tStat, a5, b5⟩, ⟨58, [], a6, b6⟩, ⟨34, wordL f, a7, b7⟩, ⟨44, [], a8, b8⟩, ⟨34, tBody, a9, b9⟩, ⟨58, [], a10, b10⟩] := ⟨_, rfl⟩
  rw [← hpre] at hW htk
  rw [hW] at htk
  have hpl : pre.length = 11 := by rw [hpre]; rfl
  have hWl : 11 < W.length := by rw [← hW]; simp [hpl]
  have hWi : ∀ i, i < 11 → W[i]? = pre[i]? := fun i hi => by rw [← hW, List.append_assoc, List.getElem?_append_left (by omega)]
  have hB : ∀ i, i < 10 → bAt W i = bAt pre i := fun i hi => by unfold bAt isK txt; rw [hWi i (by omega), hWi (i + 1) (by omega)]
  have hf : firstB W = some 9 := by
    refine first_some (by omega) ?_ ?_
    · rw [hB 9 (by omega), hpre]; rfl
    · intro i hi
      rw [hB i (by omega), hpre]
      match i, hi with
      | 0, _ => rfl
      | 1, _ => rfl
      | 2, _ => rfl
      | 3, _ => show (true && decide (r = tBody) && false) = false; simp
      | 4, _ => rfl
      | 5, _ => rfl
      | 6, _ => rfl
      | 7, _ => show (true && decide (wordL f = tBody) && false) = false; simp
      | 8, _ => rfl
  have hto : toAt W 10 = (preH f r).length := by
    unfold toAt; rw [hWi 10 (by omega), hpre]; exact hb10
  have htl : tokL (hookL f r b) = W := by unfold tokL; rw [htk]; rfl
  have hbody : bodyR (hookL f r b) 9 = b := by
    unfold bodyR
    have hll : (preH f r ++ (b ++ [125])).length - 1 = (preH f r ++ b).length := by simp
    rw [htl, hto, hookL_pre, hll, ← List.append_assoc, List.take_left, List.drop_left]
  have hw : decide (wordL f = wordL true) = f := by cases f <;> decide
  unfold readR
  rw [hp]
  dsimp only
  rw [if_pos ⟨rfl, rfl⟩, htl, hf]
  dsimp only
  rw [hbody, show kidT (hookN f r n) 1 = wordL f from rfl, show kidT (hookN f r n) 0 = r from rfl, hw]
  unfold sureP
  rw [if_pos ⟨h, rfl⟩]
/-- Both ways read the same. -/
theorem read_same37 (l : List UInt8) : readP l = readR l := by
  cases h : readP l with
  | some p =>
    obtain ⟨f, r, b⟩ := p
    obtain ⟨h1, h2⟩ := readP_some h
    have h3 := readR_back (f := f) h1
    rw [h2] at h3
    exact h3.symm
  | none =>
    cases h5 : readR l with
    | none => rfl
    | some p =>
      obtain ⟨f, r, b⟩ := p
      obtain ⟨h1, h2⟩ := readR_some h5
      have h3 := readP_back (f := f) h1
      rw [h2, h] at h3
      cases h3
end Go.Proofs.Ytdfnlcigbmiafaa

/- Plain: how long a node's texts are; where a body begins (chapter 37). -/
namespace Go.Proofs.Ytdfnlcigbmiafaa
set_option linter.unusedVariables false
set_option linter.unusedSimpArgs false
theorem strJ_len : ∀ (m : Nat) (l t : List UInt8) (n : Nat), l.length ≤ m → strJ l = some (t, n) → t.length + 1 ≤ n
  | m, [], t, n, _, h => by rw [strJ_nil] at h; cases h
  | 0, _ :: _, _, _, hl, _ => by simp at hl
  | m + 1, a :: r, t, n, hl, h => by
    have h0 : a :: r ≠ [] := by simp
    rw [strJ_step h0] at h
    split at h
    · simp only [Option.some.injEq, Prod.mk.injEq] at h
      obtain ⟨rfl, rfl⟩ := h
      simp
    · split at h
      · cases h
      · rename_i q k ho
        have hb := oneJ_bound ho
        have he := oneJ_len ho
        cases hs : strJ ((a :: r).drop k) with
        | none => rw [hs] at h; cases h
        | some p =>
          obtain ⟨u, j⟩ := p
          rw [hs] at h
          simp only [Option.map_some, Option.some.injEq, Prod.mk.injEq] at h
          obtain ⟨rfl, rfl⟩ := h
          have := strJ_len m _ u j (by rw [List.length_drop]; simp only [List.length_cons] at *; omega) hs
          rw [List.length_append]; omega
theorem one_text {l : List UInt8} {k : Nat} {t : Tok} (hk : k < l.length) (h : oneT l k = some t) : t.text.length ≤ l.length := by
  have hbd := oneT_bd hk h
  unfold oneT at h
  split at h
  · cases h; simp
  split at h
  · split at h
    · cases h
    · rename_i u n hs
      cases h
      have h1 := strJ_len _ _ _ _ (Nat.le_refl _) hs
      have h2 := hbd.2.2.1
      dsimp only at *; omega
  split at h
  · rename_i h1
    cases h
    have h2 := hbd.2.2.1
    have e : tTrue.length = 4 := rfl
    dsimp only at *; omega
  split at h
  · cases h
    have h2 := hbd.2.2.1
    have e : tFalse.length = 5 := rfl
    dsimp only at *; omega
  split at h
  · cases h
    have h2 := hbd.2.2.1
    have e : tNull.length = 4 := rfl
    dsimp only at *; omega
  split at h
  · cases h
  · cases h
    dsimp only
    rw [List.length_take, List.length_drop]; omega
theorem toksF_text : ∀ (f : Nat) (l : List UInt8) (k : Nat) (ts : List Tok), toksF f l k = some ts → ∀ t ∈ ts, t.text.length ≤ l.length
  | 0, l, k, ts, h, t, ht => by unfold toksF at h; cases h; cases ht
  | f + 1, l, k, ts, h, t, ht => by
    unfold toksF at h
    split at h
    · cases h; cases ht
    · split at h
      · exact toksF_text f l (k + 1) ts h t ht
      · split at h
        · cases h
        · rename_i h1 h2 u ho
          cases hr : toksF f l u.to with
          | none => rw [hr] at h; cases h
          | some r =>
            rw [hr] at h
            cases h
            rcases List.mem_cons.1 ht with h3 | h3
            · rw [h3]; exact one_text (by omega) ho
            · exact toksF_text f l u.to r hr t h3
theorem elems_all {val : Nat → Option (Node × Nat)} {ts : List Tok} {map : Bool} {endk : Nat} {P : Node → Prop} (hv : ∀ k n k2, val k = some (n, k2) → P n) :
    ∀ (g k : Nat) (ks : List (List UInt8)) (ns : List Node) (ks' : List (List UInt8)) (ns' : List Node) (k' : Nat), elems val ts map endk g k ks ns = some (ks', ns', k') → (∀ n ∈ ns, P n) → (∀ n ∈ ns', P n) ∧ ∃ j, k' = j + 1 ∧ isK ts j endk = true
  | 0, k, ks, ns, ks', ns', k', h, hg => by cases h
  | g + 1, k, ks, ns, ks', ns', k', h, hg => by
    unfold elems at h
    split at h
    · cases h
    · split at h
      · cases h
      · rename_i n k2 hvk
        have hP := hv _ _ _ hvk
        have hns : ∀ m ∈ ns ++ [n], P m := fun m hm => by
          rcases List.mem_append.1 hm with h1 | h1
          · exact hg m h1
          · rw [List.mem_singleton.1 h1]; exact hP
        split at h
        · rename_i hk
          simp only [Option.some.injEq, Prod.mk.injEq] at h
          obtain ⟨_, rfl, rfl⟩ := h
          exact ⟨hns, k2, rfl, hk⟩
        · split at h
          · exact elems_all hv g _ _ _ _ _ _ h hns
          · cases h
theorem val_text {ts : List Tok} {M : Nat} (hts : ∀ t ∈ ts, t.text.length ≤ M) : ∀ (f k : Nat) (n : Node) (k2 : Nat), valI f ts k = some (n, k2) → n.text.length ≤ M ∧ (∀ m ∈ n.kids, m.text.length ≤ M) ∧ (n.kind = 123 → ∃ j, k2 = j + 1 ∧ isK ts j 125 = true)
  | 0, k, n, k2, h => by cases h
  | f + 1, k, n, k2, h => by
    obtain ⟨t, ht, hkind⟩ := valI_head h
    have hT := hts t (List.mem_of_getElem? ht)
    rw [valI_at ht] at h
    split at h
    · rename_i h1
      simp only [Option.some.injEq, Prod.mk.injEq] at h
      obtain ⟨rfl, rfl⟩ := h
      refine ⟨hT, fun m hm => (by cases hm), fun h2 => ?_⟩
      have h3 : t.kind = 123 := h2
      omega
    split at h
    · cases h
    obtain ⟨E, hE⟩ : ∃ E, (if t.kind = 123 then 125 else 93) = E := ⟨_, rfl⟩
    rw [hE] at h
    by_cases h3 : isK ts (k + 1) E = true
    · rw [if_pos h3] at h
      simp only [Option.some.injEq, Prod.mk.injEq] at h
      obtain ⟨rfl, rfl⟩ := h
      refine ⟨hT, fun m hm => (by cases hm), fun h2 => ⟨k + 1, rfl, ?_⟩⟩
      have h4 : t.kind = 123 := h2
      rw [if_pos h4] at hE; rw [hE]; exact h3
    · rw [if_neg h3] at h
      cases he : elems (fun j => valI f ts j) ts (decide (t.kind = 123)) E ts.length (k + 1) [] [] with
      | none => rw [he] at h; cases h
      | some out =>
        obtain ⟨ks, ns, k3⟩ := out
        rw [he] at h
        simp only [Option.some.injEq, Prod.mk.injEq] at h
        obtain ⟨rfl, rfl⟩ := h
        have h5 := elems_all (P := fun m => m.text.length ≤ M) (fun k n k2 hv => (val_text hts f k n k2 hv).1) _ _ _ _ _ _ _ he (fun m hm => by cases hm)
        refine ⟨hT, h5.1, fun h2 => ?_⟩
        have h4 : t.kind = 123 := h2
        have h6 := h5.2
        rw [if_pos h4] at hE; rw [hE]; exact h6
theorem rising_from {l : List UInt8} : ∀ (ts : List Tok) (k j : Nat) (b : Tok), Rising l k ts → ts[j]? = some b → k ≤ b.frm ∧ b.frm < b.to ∧ b.to ≤ l.length
| [], k, j, b, _, h => by simp at h
| t :: ts, k, 0, b, hr, h => by
  simp at h
  subst h
  exact ⟨hr.1, hr.2.1, hr.2.2.1⟩
| t :: ts, k, j + 1, b, hr, h => by
  have h2 := rising_from ts t.to j b hr.2.2.2.2 (by simpa using h)
  have := hr.1; have := hr.2.1
  exact ⟨by omega, h2.2⟩
theorem rising_le {l : List UInt8} : ∀ (ts : List Tok) (k i j : Nat) (a b : Tok), Rising l k ts → i < j → ts[i]? = some a → ts[j]? = some b → a.to ≤ b.frm ∧ b.frm < b.to ∧ b.to ≤ l.length
  | [], k, i, j, a, b, _, _, h, _ => by simp at h
  | t :: ts, k, 0, j + 1, a, b, hr, _, ha, hb => by
    simp at ha hb
    subst ha
    have h2 := rising_from ts t.to j b hr.2.2.2.2 hb
    exact h2
  | t :: ts, k, i + 1, j + 1, a, b, hr, hij, ha, hb => rising_le ts t.to i j a b hr.2.2.2.2 (by omega) (by simpa using ha) (by simpa using hb)
  | t :: ts, k, i, 0, a, b, _, hij, _, _ => by omega
/-- What is known of a text that is a map of three members. -/
theorem three_facts {l : List UInt8} {t : List UInt8} {ks : List (List UInt8)} {n1 n2 n3 : Node} (hp : parseJ l = .ok (.mk 123 t ks [n1, n2, n3])) :
    ∃ ts, toks l = some ts ∧ tokL l = ts ∧ n1.text.length ≤ l.length ∧ n2.text.length ≤ l.length ∧ ts.length ≤ l.length ∧ (∀ (i : Nat) (tk : Tok), ts[i]? = some tk → tk.to ≤ l.length) ∧ ∀ j, bAt ts j = true → toAt ts (j + 1) ≤ l.length - 1 ∧ j + 1 < ts.length := by
  obtain ⟨ts, h1, h2, _⟩ := parse_inv hp
  have h3 := val_text (toksF_text _ _ _ _ h1) _ _ _ _ h2
  have hr := toksF_rise _ _ _ _ h1
  refine ⟨ts, h1, by unfold tokL; rw [h1]; rfl, h3.2.1 n1 (by simp [Node.kids]), h3.2.1 n2 (by simp [Node.kids]), toks_len h1, fun i tk h => (rising_from ts 0 i tk hr h).2.2, fun j hj => ?_⟩
  obtain ⟨e, he, hk⟩ := h3.2.2 rfl
  unfold bAt at hj
  simp only [Bool.and_eq_true] at hj
  have hj2 := hj.2
  unfold isK at hj2 hk
  cases ha : ts[j + 1]? with
  | none => rw [ha] at hj2; cases hj2
  | some a =>
    cases hb : ts[e]? with
    | none => rw [hb] at hk; cases hk
    | some b =>
      rw [ha] at hj2; rw [hb] at hk
      simp only [decide_eq_true_eq] at hj2 hk
      have hjl := (List.getElem?_eq_some_iff.1 ha).1
      have hne : j + 1 ≠ e := fun x => by rw [x, hb] at ha; cases ha; omega
      have h4 := rising_le ts 0 (j + 1) e a b hr (by omega) ha hb
      unfold toAt
      rw [ha]
      exact ⟨by dsimp only; omega, hjl⟩
end Go.Proofs.Ytdfnlcigbmiafaa
