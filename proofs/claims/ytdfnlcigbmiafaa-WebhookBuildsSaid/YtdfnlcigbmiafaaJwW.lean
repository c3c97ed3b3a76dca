/- Plain: tokens of a text behind another; a written string is one token. -/
import Derived.Test.YtdfnlcigbmiafaaJsSpec
import Derived.Test.YtdfnlcigbmiafaaJsW
import Derived.Outline
import Derived.Test.YtdfnlcigbmiafaaUtfJ
import Derived.Test.YtdfnlcigbmiafaaJtG4
import Derived.Test.YtdfnlcigbmiafaaUtfG
import Derived.Test.YtdfnlcigbmiafaaUtfM
import Derived.Test.YtdfnlcigbmiafaaQuoF
import Derived.Test.YtdfnlcigbmiafaaQuoG
namespace Go.Proofs.Ytdfnlcigbmiafaa
set_option linter.unusedVariables false
set_option linter.unusedSimpArgs false
def shiftT (d : Nat) (t : Tok) : Tok := ⟨t.kind, t.text, d + t.frm, d + t.to⟩
theorem digE_drop (l : List UInt8) (d k : Nat) : digE l (d + k) = d + digE (l.drop d) k := by
  unfold digE; rw [List.drop_drop]; omega
theorem numStart_drop (l : List UInt8) (d k : Nat) : numStart l (d + k) = d + numStart (l.drop d) k := by
  unfold numStart; rw [bt_drop]; split <;> omega
theorem numInt_drop (l : List UInt8) (d k : Nat) : numInt l (d + k) = d + numInt (l.drop d) k := by
  unfold numInt; rw [bt_drop, digE_drop]; split <;> omega
theorem numFrac_drop (l : List UInt8) (d e : Nat) : numFrac l (d + e) = d + numFrac (l.drop d) e := by
  unfold numFrac
  rw [bt_drop, Nat.add_assoc, digE_drop]
  by_cases h : bt l (d + e) = 46 ∧ e + 1 < digE (l.drop d) (e + 1)
  · rw [if_pos h, if_pos ⟨h.1, by omega⟩]
  · rw [if_neg h, if_neg (fun x => h ⟨x.1, by have := x.2; omega⟩)]
theorem expStart_drop (l : List UInt8) (d e : Nat) : expStart l (d + e) = d + expStart (l.drop d) e := by
  unfold expStart; rw [bt_drop]; split <;> omega
theorem numExp_drop (l : List UInt8) (d e : Nat) : numExp l (d + e) = d + numExp (l.drop d) e := by
  unfold numExp
  rw [bt_drop, Nat.add_assoc, expStart_drop, digE_drop]
  by_cases h : bt l (d + e) = 101 ∨ bt l (d + e) = 69
  · rw [if_pos h, if_pos h]
    by_cases h2 : expStart (l.drop d) (e + 1) < digE (l.drop d) (expStart (l.drop d) (e + 1))
    · rw [if_pos h2, if_pos (by omega)]
    · rw [if_neg h2, if_neg (by omega)]
  · rw [if_neg h, if_neg h]
theorem numE_drop (l : List UInt8) (d k : Nat) : numE l (d + k) = (numE (l.drop d) k).map (d + ·) := by
  unfold numE
  rw [numStart_drop, digE_drop, numInt_drop, numFrac_drop, numExp_drop]
  by_cases h : digE (l.drop d) (numStart (l.drop d) k) = numStart (l.drop d) k
  · rw [if_pos h, if_pos (by omega)]; rfl
  · rw [if_neg h, if_neg (by omega)]; rfl
theorem atL_drop (l p : List UInt8) (d k : Nat) (h : d ≤ l.length) : atL l p (d + k) = atL (l.drop d) p k := by
  unfold atL
  rw [List.drop_drop, List.length_drop]
  congr 1
  exact decide_eq_decide.2 (by omega)
theorem oneT_drop (l : List UInt8) (d k : Nat) (h : d ≤ l.length) : oneT l (d + k) = (oneT (l.drop d) k).map (shiftT d) := by
  unfold oneT
  rw [bt_drop, atL_drop _ _ _ _ h, atL_drop _ _ _ _ h, atL_drop _ _ _ _ h, numE_drop, List.drop_drop, List.drop_drop, Nat.add_assoc d k 1]
  split
  · rfl
  split
  · cases strJ (l.drop (d + (k + 1))) with
    | none => rfl
    | some p => obtain ⟨t, n⟩ := p; simp only [Option.map_some, shiftT]; rw [Nat.add_assoc d]
  split
  · rfl
  split
  · rfl
  split
  · rfl
  cases numE (l.drop d) k with
  | none => rfl
  | some e => simp only [Option.map_some, shiftT]; rw [Nat.add_sub_add_left]
theorem toksAt_drop (l : List UInt8) (d : Nat) (h : d ≤ l.length) : ∀ (m k : Nat), l.length ≤ d + k + m → toksAt l (d + k) = (toksAt (l.drop d) k).map (List.map (shiftT d))
  | 0, k, hm => by rw [toksAt_end (by omega), toksAt_end (by rw [List.length_drop]; omega)]; rfl
  | m + 1, k, hm => by
    by_cases h1 : l.length ≤ d + k
    · rw [toksAt_end h1, toksAt_end (by rw [List.length_drop]; omega)]; rfl
    have h2 : k < (l.drop d).length := by rw [List.length_drop]; omega
    rw [toksAt_step (by omega), toksAt_step h2, bt_drop, oneT_drop l d k h]
    split
    · rw [Nat.add_assoc]; exact toksAt_drop l d h m (k + 1) (by omega)
    · cases ho : oneT (l.drop d) k with
      | none => rfl
      | some t =>
        have hb := oneT_bd h2 ho
        rw [List.length_drop] at hb
        simp only [Option.map_some]
        have := toksAt_drop l d h m t.to (by omega)
        rw [show (shiftT d t).to = d + t.to from rfl, this]
        cases toksAt (l.drop d) t.to with
        | none => rfl
        | some ts => rfl
theorem toksAt_zero (l : List UInt8) (d : Nat) (h : d ≤ l.length) : toksAt l d = (toks (l.drop d)).map (List.map (shiftT d)) := toksAt_drop l d h l.length 0 (by omega)
theorem toks_step {l : List UInt8} (h : l ≠ []) : toks l = if blankK (bt l 0) then toks (l.drop 1) |>.map (List.map (shiftT 1)) else
    match oneT l 0 with
    | none => none
    | some t => ((toks (l.drop t.to)).map (List.map (shiftT t.to))).map (t :: ·) := by
  have hl := List.length_pos_iff.2 h
  unfold toks
  rw [toksAt_step hl]
  split
  · exact toksAt_zero l 1 hl
  · cases ho : oneT l 0 with
    | none => rfl
    | some t =>
      have hb := oneT_bd hl ho
      dsimp only
      rw [toksAt_zero l t.to hb.2.2.1]; rfl
/-- The first byte of what a rune is written as ends no string. -/
theorem wrJ_head {n : Nat} (hr : isRune (n : Int)) (t : List UInt8) : bt (wrJ n ++ t) 0 ≠ 34 := by
  by_cases h1 : letN n = 0
  · by_cases h2 : longN n
    · rw [wrJ_long h1 h2]; exact (by decide : (92 : Nat) ≠ 34)
    · rw [wrJ_self h1 h2]
      have hs := letN_special h1
      have hh := enc_head hr t
      omega
  · rw [wrJ_short h1]; exact (by decide : (92 : Nat) ≠ 34)
theorem str_wr : ∀ (rs : List Nat) (t : List UInt8), (∀ r ∈ rs, isRune (r : Int)) → strJ (rs.flatMap wrJ ++ 34 :: t) = some (joined rs, (rs.flatMap wrJ).length + 1)
  | [], t, _ => by
    rw [strJ_step (by simp), if_pos (by rfl)]; rfl
  | r :: rs, t, h => by
    have hr := h r (by simp)
    have hl := wrJ_length r
    rw [List.flatMap_cons, List.append_assoc]
    have h0 : wrJ r ++ (rs.flatMap wrJ ++ 34 :: t) ≠ [] := by
      intro e
      have := congrArg List.length e
      rw [List.length_append, List.length_nil] at this; omega
    rw [strJ_step h0, if_neg (wrJ_head hr _), oneJ_wr hr]
    dsimp only
    rw [List.drop_left, str_wr rs t (fun x hx => h x (by simp [hx]))]
    simp only [Option.map_some, List.length_append, Option.some.injEq, Prod.mk.injEq]
    exact ⟨rfl, by omega⟩
/-- A written string is one token. -/
theorem str_write (u t : List UInt8) : strJ (writeJ u ++ 34 :: t) = some (joined (runes u), (writeJ u).length + 1) := str_wr _ t (runes_rune _ u (Nat.le_refl _))
theorem toks_str {u : List UInt8} (hu : joined (runes u) = u) (t : List UInt8) : toks (34 :: (writeJ u ++ 34 :: t)) = ((toks t).map (List.map (shiftT ((writeJ u).length + 2)))).map (⟨34, u, 0, (writeJ u).length + 2⟩ :: ·) := by
  rw [toks_step (by simp), if_neg (show ¬ blankK (bt (34 :: (writeJ u ++ 34 :: t)) 0) from (by decide : ¬ blankK 34))]
  have h1 : oneT (34 :: (writeJ u ++ 34 :: t)) 0 = some ⟨34, u, 0, (writeJ u).length + 2⟩ := by
    unfold oneT
    rw [if_neg (show ¬ markK (bt (34 :: (writeJ u ++ 34 :: t)) 0) from (by decide : ¬ markK 34)), if_pos (show bt (34 :: (writeJ u ++ 34 :: t)) 0 = 34 from rfl)]
    rw [show (34 :: (writeJ u ++ 34 :: t)).drop (0 + 1) = writeJ u ++ 34 :: t from rfl, str_write, hu]
    dsimp only
    rw [show 0 + 1 + ((writeJ u).length + 1) = (writeJ u).length + 2 by omega]
  rw [h1]
  dsimp only
  rw [show (34 :: (writeJ u ++ 34 :: t)).drop ((writeJ u).length + 2) = t by
    rw [show (writeJ u).length + 2 = ((writeJ u).length + 1) + 1 by omega, List.drop_succ_cons, ← List.drop_drop, List.drop_left]; rfl]
/-- A mark is one token. -/
theorem toks_mark {c : UInt8} (hc : markK c.toNat) (t : List UInt8) : toks (c :: t) = ((toks t).map (List.map (shiftT 1))).map (⟨c.toNat, [], 0, 1⟩ :: ·) := by
  have hb : ¬ blankK c.toNat := by unfold markK at hc; unfold blankK; omega
  rw [toks_step (by simp)]
  rw [bt_c0, if_neg hb]
  have h1 : oneT (c :: t) 0 = some ⟨c.toNat, [], 0, 1⟩ := by
    unfold oneT; rw [bt_c0, if_pos hc]
  rw [h1]; rfl
/-- What the value of tokens depends on: their kinds and texts alone. -/
theorem shift_get (d : Nat) (ts : List Tok) (k : Nat) : (ts.map (shiftT d))[k]? = (ts[k]?).map (shiftT d) := by rw [List.getElem?_map]
end Go.Proofs.Ytdfnlcigbmiafaa

/- Walks: the document's Same of two rows of texts (chapter 1). -/
namespace Go.Proofs.Ytdfnlcigbmiafaa
open Go.RowKit
set_option linter.unusedVariables false
set_option linter.unusedSimpArgs false
theorem strC_at {ks : List (List UInt8)} {j : Nat} {u : List UInt8} (h : ks[j]? = some u) : (strC ks)[j]? = some (.string (strOf u)) := by
  unfold strC; rw [List.getElem?_map, h]; rfl
/-- A row of texts in memory. -/
def TxtR (w : World) (ks : List (List UInt8)) (v : Value) : Prop := ∃ ao cap, v = .slice ao ks.length cap ∧
  ∀ (j : Nat) (u : List UInt8), ks[j]? = some u → ∃ g, ao = some ⟨g, 0, none⟩ ∧ g < w.heap.size ∧ w.cell? ⟨g, j, none⟩ = some (.string (strOf u))
theorem TxtR.of {w : World} {ok : Nat → Prop} {v : Value} {ks : List (List UInt8)} (h : RowW w ok v ks.length (strC ks)) : TxtR w ks v := by
  rcases h with ⟨hv, h0, _⟩ | ⟨g, cap, hv, _, hl, hc⟩
  · exact ⟨none, 0, by rw [hv, h0], fun j u hu => by rw [List.getElem?_eq_none (by omega)] at hu; cases hu⟩
  · exact ⟨_, cap, hv, fun j u hu => ⟨g, rfl, hl, hc j _ (strC_at hu)⟩⟩
theorem str_same (a b : List UInt8) : ((strOf a).toList == (strOf b).toList) = decide (a = b) := by
  rw [ByteArray.toList_eq, ByteArray.toList_eq, strOf_list, strOf_list]
  by_cases h : a = b <;> simp [h]
set_option maxRecDepth 100000 in
set_option maxHeartbeats 1000000 in
theorem rsame_any (ks ks2 : List (List UInt8)) (v v2 : Value) (w : World) (h1 : TxtR w ks v) (h2 : TxtR w ks2 v2) (l1 : ks.length ≤ 1000000) (l2 : ks2.length ≤ 1000000) :
    Calls Try.prog 15 #[v, v2] w fun e w' => e = .returned (.bool (decide (ks = ks2))) ∧ Below w.heap.size w w' := by
  obtain ⟨a1, p1, rfl, C1⟩ := h1
  obtain ⟨a2, p2, rfl, C2⟩ := h2
  by_cases hn : ks.length = ks2.length
  · have HC2 := Lib.hid C2
    have HC1 := Lib.hid C1
    have HN := Lib.hid hn
    have hq : ((ks.length : Int) == (ks.length : Int)) = true := by simp
    rw [← hn]
    clear C1 C2 hn l2
    go_enter Try.func15, Try.ntmps15
    go_wp2_with fail
    go_loopw [5] (fun z wr => ∃ i : Nat, z = .int .i64 i ∧ i ≤ ks.length ∧ (∀ j, j < i → ks[j]? = ks2[j]?) ∧ Below w.heap.size w wr) (fun z _ => ks.length - (intOf z).toNat)
    case atStart => exact ⟨0, rfl, Nat.zero_le _, fun j hj => by omega, Below.refl _ _⟩
    case round =>
      obtain ⟨i, rfl, hi, hs, hb⟩ := hrel
      have HS := Lib.hid hs
      have HB := Lib.hid hb
      clear hs hb
      by_cases hlt : i < ks.length
      · obtain ⟨u, hu⟩ : ∃ u, ks[i]? = some u := ⟨_, List.getElem?_eq_getElem hlt⟩
        obtain ⟨u2, hu2⟩ : ∃ u, ks2[i]? = some u := ⟨_, List.getElem?_eq_getElem (by have := HN.out; omega)⟩
        obtain ⟨g1, rfl, hg1, d1⟩ := HC1.out i u hu
        obtain ⟨g2, rfl, hg2, d2⟩ := HC2.out i u2 hu2
        have e1 := (HB.out.cell (p := ⟨g1, i, none⟩) hg1).trans d1
        have e2 := (HB.out.cell (p := ⟨g2, i, none⟩) hg2).trans d2
        obtain ⟨b, hb⟩ : ∃ b, decide (u = u2) = b := ⟨_, rfl⟩
        have hb2 := (str_same u u2).trans hb
        have HBB := Lib.hid hb
        generalize strOf u = x at *
        generalize strOf u2 = y at *
        have HU := Lib.hid hu
        have HU2 := Lib.hid hu2
        clear d1 d2 hb hu hu2
        go_wp2_with fail
        go_region_held3 (fun w' => w'.cell? ⟨g1, i, none⟩ = some (.string x) ∧ w'.cell? ⟨g2, i, none⟩ = some (.string y)) (exact ⟨e1, e2⟩) (fail)
        cases b
        · go_wp2_with fail
          go_ret
          refine ⟨?_, HB.out.drew⟩
          rw [decide_eq_false (fun h => of_decide_eq_false HBB.out (by subst h; exact Option.some.inj (HU.out.symm.trans HU2.out)))]; rfl
        · go_wp2_with fail
          go_roundw
          case rel =>
            refine ⟨i + 1, by go_num, by omega, fun j hj => ?_, HB.out.drew⟩
            rcases Nat.lt_or_ge j i with h | h
            · exact HS.out j h
            · obtain rfl : j = i := by omega
              rw [HU.out, HU2.out, of_decide_eq_true HBB.out]
          case measure => simp [intOf]; omega
      · go_wp2_with fail
        go_ret
        refine ⟨?_, HB.out⟩
        rw [decide_eq_true (List.ext_getElem? fun j => ?_)]
        · rfl
        · rcases Nat.lt_or_ge j i with h | h
          · exact HS.out j h
          · rw [List.getElem?_eq_none (by omega), List.getElem?_eq_none (by have := HN.out; omega)]
  · have hq : ((ks.length : Int) == (ks2.length : Int)) = false := by simp; omega
    have HV : Hid (decide (ks = ks2) = false) := decide_eq_false (fun h => hn (by rw [h]))
    clear C1 C2
    go_enter Try.func15, Try.ntmps15
    go_wp2_with fail
    go_ret
    exact ⟨by rw [HV.out]; rfl, Below.refl _ _⟩
end Go.Proofs.Ytdfnlcigbmiafaa

/- Walks: is a text of some row no UTF-8 (slices.ContainsFunc over texts; chapter 10). -/
namespace Go.Proofs.Ytdfnlcigbmiafaa
open Go.RowKit
set_option linter.unusedVariables false
set_option linter.unusedSimpArgs false
theorem txtR_below {w w' : World} {ks : List (List UInt8)} {v : Value} (h : TxtR w ks v) (hb : Below w.heap.size w w') : TxtR w' ks v := by
  obtain ⟨ao, cap, hv, hc⟩ := h
  refine ⟨ao, cap, hv, fun j u hu => ?_⟩
  obtain ⟨g, h1, h2, h3⟩ := hc j u hu
  exact ⟨g, h1, Nat.lt_of_lt_of_le h2 hb.size, (hb.cell (p := ⟨g, j, none⟩) h2).trans h3⟩
theorem first_bad (ks : List (List UInt8)) : (∃ (i : Nat) (u : List UInt8), ks[i]? = some u ∧ good u = false ∧ ∀ (j : Nat) (u : List UInt8), j < i → ks[j]? = some u → good u = true) ∨ (∀ (j : Nat) (u : List UInt8), ks[j]? = some u → good u = true) := by
  induction ks with
  | nil => exact .inr fun j u h => by simp at h
  | cons k ks ih =>
    cases hk : good k
    · exact .inl ⟨0, k, rfl, hk, fun j u hj => by omega⟩
    · rcases ih with ⟨i, u, h1, h2, h3⟩ | h
      · refine .inl ⟨i + 1, u, h1, h2, fun j u' hj hu => ?_⟩
        cases j with
        | zero => cases hu; exact hk
        | succ j => exact h3 j u' (by omega) hu
      · refine .inr fun j u hu => ?_
        cases j with
        | zero => cases hu; exact hk
        | succ j => exact h j u hu
end Go.Proofs.Ytdfnlcigbmiafaa

/- Walks: is a text just one token (chapter 10). -/
namespace Go.Proofs.Ytdfnlcigbmiafaa
open Go.RowKit
set_option linter.unusedVariables false
set_option linter.unusedSimpArgs false
def aloneB (l : List UInt8) (kind : Nat) : Bool := match toks l with
  | some [t] => decide (t.kind = kind) && decide (t.text = l)
  | _ => false
end Go.Proofs.Ytdfnlcigbmiafaa

/- Walks: may a node come of Parse (json.fits; chapter 10). -/
namespace Go.Proofs.Ytdfnlcigbmiafaa
open Go.RowKit
set_option linter.unusedVariables false
set_option linter.unusedSimpArgs false
def okK (q : Nat) (t : List UInt8) (ks : List (List UInt8)) (ns : List Node) : Bool :=
  if q = 34 then decide (ks.length + ns.length = 0)
  else if q = 48 ∨ q = 97 then decide (ks.length + ns.length = 0) && aloneB t q
  else if q = 91 then decide (ks.length = 0) && decide (t = [])
  else if q = 123 then decide (ks.length = ns.length) && (ks.all fun k => good k) && decide (t = [])
  else false
mutual
def fitsN : Node → Nat → Bool
  | .mk q t ks ns, d => decide (d ≤ 32) && good t && okK q t ks ns && fitsL ns (d + 1)
def fitsL : List Node → Nat → Bool
  | [], _ => true
  | n :: ns, d => fitsN n d && fitsL ns d
end
mutual
/-- A node of bounded parts. -/
def SmallN : Node → Prop
  | .mk q t ks ns => t.length ≤ 100000 ∧ (∀ k ∈ ks, k.length ≤ 100000) ∧ ks.length ≤ 100000 ∧ ns.length ≤ 100000 ∧ SmallL ns
def SmallL : List Node → Prop
  | [] => True
  | n :: ns => SmallN n ∧ SmallL ns
end
theorem fitsL_at {ns : List Node} {d : Nat} : fitsL ns d = true ↔ ∀ (j : Nat) (n : Node), ns[j]? = some n → fitsN n d = true := by
  induction ns with
  | nil => simp [fitsL]
  | cons m ns ih =>
    rw [fitsL, Bool.and_eq_true, ih]
    constructor
    · rintro ⟨h1, h2⟩ j n hn
      cases j with
      | zero => cases hn; exact h1
      | succ j => exact h2 j n hn
    · intro h
      exact ⟨h 0 m rfl, fun j n hn => h (j + 1) n hn⟩
theorem SmallL.at {ns : List Node} (h : SmallL ns) {j : Nat} {n : Node} (hn : ns[j]? = some n) : SmallN n := by
  induction ns generalizing j with
  | nil => simp at hn
  | cons m ns ih =>
    unfold SmallL at h
    cases j with
    | zero => cases hn; exact h.1
    | succ j => exact ih h.2 hn
-- WALKS
theorem first_misfit (ns : List Node) (d : Nat) : (∃ (i : Nat) (n : Node), ns[i]? = some n ∧ fitsN n d = false ∧ ∀ (j : Nat) (m : Node), j < i → ns[j]? = some m → fitsN m d = true) ∨ (∀ (j : Nat) (m : Node), ns[j]? = some m → fitsN m d = true) := by
  induction ns with
  | nil => exact .inr fun j u h => by simp at h
  | cons k ks ih =>
    cases hk : fitsN k d
    · exact .inl ⟨0, k, rfl, hk, fun j u hj => by omega⟩
    · rcases ih with ⟨i, u, h1, h2, h3⟩ | h
      · refine .inl ⟨i + 1, u, h1, h2, fun j u' hj hu => ?_⟩
        cases j with
        | zero => cases hu; exact hk
        | succ j => exact h3 j u' (by omega) hu
      · refine .inr fun j u hu => ?_
        cases j with
        | zero => cases hu; exact hk
        | succ j => exact h j u hu
/-- A kid in memory. -/
theorem kid_at {w wr : World} {ok : Nat → Prop} {v : Value} {ns : List Node} {cs : List Value} (hr : RowW w ok v ns.length cs) (hk : KidsW w ok ns cs) {j : Nat} {n : Node} (hn : ns[j]? = some n) (hb : Below w.heap.size w wr) :
    ∃ (g cap : Nat) (a b c d : Value), v = .slice (some ⟨g, 0, none⟩) ns.length cap ∧ wr.cell? ⟨g, j * 4, none⟩ = some a ∧ wr.cell? ⟨g, j * 4 + 1, none⟩ = some b ∧ wr.cell? ⟨g, j * 4 + 2, none⟩ = some c ∧ wr.cell? ⟨g, j * 4 + 3, none⟩ = some d ∧ NodeW wr ok n (.agg #[a, b, c, d]) := by
  obtain ⟨a, b, c, d, e1, e2, e3, e4, x⟩ := KidsW.at ns cs j n hk hn
  rcases hr with ⟨_, h0, hc⟩ | ⟨g, cap, hv, hg, hl, hc⟩
  · have h1 := List.length_eq_zero_iff.1 h0
    subst h1; simp at hn
  · exact ⟨g, cap, a, b, c, d, hv, (hb.cell (p := ⟨g, j * 4, none⟩) hl).trans (hc _ _ e1), (hb.cell (p := ⟨g, j * 4 + 1, none⟩) hl).trans (hc _ _ e2), (hb.cell (p := ⟨g, j * 4 + 2, none⟩) hl).trans (hc _ _ e3), (hb.cell (p := ⟨g, j * 4 + 3, none⟩) hl).trans (hc _ _ e4),
      NodeW.mono (fun g hg hl => ⟨hg, Nat.lt_of_lt_of_le hl hb.size, hb.block g hl⟩) n _ x⟩
theorem rowW_len {w : World} {ok : Nat → Prop} {v : Value} {n : Nat} {xs : List Value} (h : RowW w ok v n xs) : ∃ o c, v = .slice o n c := by
  rcases h with ⟨hv, h0, _⟩ | ⟨g, cap, hv, _⟩
  · exact ⟨_, _, by rw [hv, h0]⟩
  · exact ⟨_, _, hv⟩
end Go.Proofs.Ytdfnlcigbmiafaa

/- Walks: json.fits and json.Is (chapter 10). -/
namespace Go.Proofs.Ytdfnlcigbmiafaa
open Go.RowKit
set_option linter.unusedVariables false
set_option linter.unusedSimpArgs false
theorem SmallL.all {ns : List Node} (h : SmallL ns) : ∀ n ∈ ns, SmallN n := fun n hn => by
  obtain ⟨j, hj⟩ := List.getElem?_of_mem hn
  exact h.at hj
theorem eq_of_dec (n m : Nat) : ((n : Int) == (m : Int)) = decide (n = m) := by
  by_cases h : n = m
  · simp [h]
  · have : ¬ ((n : Int) = (m : Int)) := by omega
    simp [h, this]
theorem sum_zero (n m : Nat) : ((n : Int) + (m : Int) == 0) = decide (n + m = 0) := by
  by_cases h : n + m = 0
  · rw [decide_eq_true h]; have : (n : Int) + m = 0 := by omega
    simp [this]
  · rw [decide_eq_false h]; have : ¬ ((n : Int) + m = 0) := by omega
    simp [this]
theorem str_nil (t : List UInt8) : (strOf t).toList.isEmpty = decide (t = []) := by
  rw [ByteArray.toList_eq, strOf_list]; cases t <;> simp
theorem str_nil2 (t : List UInt8) : ((strOf t).toList == []) = decide (t = []) := by
  rw [ByteArray.toList_eq, strOf_list]; cases t <;> simp

end Go.Proofs.Ytdfnlcigbmiafaa

/- Plain: a number's text is one token, by itself (chapter 10). -/
namespace Go.Proofs.Ytdfnlcigbmiafaa
set_option linter.unusedVariables false
set_option linter.unusedSimpArgs false
theorem digN_take : ∀ (l : List UInt8) (m : Nat), digN (l.take m) = min (digN l) m
  | [], m => by simp [digN]
  | c :: t, 0 => by simp [digN]
  | c :: t, m + 1 => by
    rw [List.take_succ_cons, digN_cons, digN_cons]
    split
    · rw [digN_take t m]; omega
    · simp
theorem digE_take {x : List UInt8} {e k : Nat} (h : k ≤ e) : digE (x.take e) k = min (digE x k) e := by
  unfold digE
  rw [List.drop_take, digN_take]
  omega
theorem bt_takeL (x : List UInt8) (e i : Nat) : bt (x.take e) i = if i < e then bt x i else 0 := by
  unfold bt
  rw [List.getD_eq_getElem?_getD, List.getD_eq_getElem?_getD, List.getElem?_take]
  split <;> rfl
theorem digE_dig {x : List UInt8} : ∀ (n k i : Nat), digE x k = k + n → k ≤ i → i < k + n → isDg (bt x i)
  | 0, k, i, h, h1, h2 => by omega
  | n + 1, k, i, h, h1, h2 => by
    have hp := digE_pos (l := x) (k := k) (by omega)
    by_cases hi : i = k
    · subst hi; exact hp.2
    · have h3 := digE_yes hp.1 hp.2
      exact digE_dig n (k + 1) i (by omega) (by omega) (by omega)
theorem digE_all {x : List UInt8} {k i : Nat} (h1 : k ≤ i) (h2 : i < digE x k) : isDg (bt x i) :=
  digE_dig (digE x k - k) k i (by have := digE_ge x k; omega) h1 (by have := digE_ge x k; omega)
/-- A number, cut behind its end, is the number. -/
theorem numE_cut {x : List UInt8} {e : Nat} (h : numE x 0 = some e) : numE (x.take e) 0 = some e ∧ (∀ i, i < e → bt x i < 128) ∧ (bt x 0 = 45 ∨ isDg (bt x 0)) ∧ 0 < e := by
  unfold numE at h ⊢
  by_cases hd : digE x (numStart x 0) = numStart x 0
  · rw [if_pos hd] at h; cases h
  rw [if_neg hd] at h
  simp only [Option.some.injEq] at h
  obtain ⟨s0, hs0⟩ : ∃ s0, numStart x 0 = s0 := ⟨_, rfl⟩
  obtain ⟨i1, hi1⟩ : ∃ i1, numInt x s0 = i1 := ⟨_, rfl⟩
  obtain ⟨i2, hi2⟩ : ∃ i2, numFrac x i1 = i2 := ⟨_, rfl⟩
  rw [hs0] at h hd
  rw [hi1, hi2] at h
  have hp := digE_pos hd
  have hge := digE_ge x s0
  have hs1 : (bt x 0 = 45 ∧ s0 = 1) ∨ (bt x 0 ≠ 45 ∧ s0 = 0) := by
    unfold numStart at hs0
    by_cases h1 : bt x 0 = 45
    · rw [if_pos h1] at hs0; exact .inl ⟨h1, by omega⟩
    · rw [if_neg h1] at hs0; exact .inr ⟨h1, by omega⟩
  have hI : (bt x s0 = 48 ∧ i1 = s0 + 1) ∨ (bt x s0 ≠ 48 ∧ i1 = digE x s0) := by
    unfold numInt at hi1
    by_cases h1 : bt x s0 = 48
    · rw [if_pos h1] at hi1; exact .inl ⟨h1, hi1.symm⟩
    · rw [if_neg h1] at hi1; exact .inr ⟨h1, hi1.symm⟩
  have hI2 : s0 < i1 := by omega
  have hFr : ((bt x i1 = 46 ∧ i1 + 1 < digE x (i1 + 1)) ∧ i2 = digE x (i1 + 1)) ∨ (¬ (bt x i1 = 46 ∧ i1 + 1 < digE x (i1 + 1)) ∧ i2 = i1) := by
    unfold numFrac at hi2
    by_cases h1 : bt x i1 = 46 ∧ i1 + 1 < digE x (i1 + 1)
    · rw [if_pos h1] at hi2; exact .inl ⟨h1, hi2.symm⟩
    · rw [if_neg h1] at hi2; exact .inr ⟨h1, hi2.symm⟩
  have hi12 : i1 ≤ i2 := by omega
  obtain ⟨f, hf⟩ : ∃ f, expStart x (i2 + 1) = f := ⟨_, rfl⟩
  have hf1 : ((bt x (i2 + 1) = 43 ∨ bt x (i2 + 1) = 45) ∧ f = i2 + 2) ∨ (¬ (bt x (i2 + 1) = 43 ∨ bt x (i2 + 1) = 45) ∧ f = i2 + 1) := by
    unfold expStart at hf
    by_cases h1 : bt x (i2 + 1) = 43 ∨ bt x (i2 + 1) = 45
    · rw [if_pos h1] at hf; exact .inl ⟨h1, by omega⟩
    · rw [if_neg h1] at hf; exact .inr ⟨h1, hf.symm⟩
  have hX : ((bt x i2 = 101 ∨ bt x i2 = 69) ∧ f < digE x f ∧ e = digE x f) ∨ (e = i2) := by
    unfold numExp at h
    rw [hf] at h
    by_cases h1 : bt x i2 = 101 ∨ bt x i2 = 69
    · rw [if_pos h1] at h
      by_cases h2 : f < digE x f
      · rw [if_pos h2] at h; exact .inl ⟨h1, h2, h.symm⟩
      · rw [if_neg h2] at h; exact .inr h.symm
    · rw [if_neg h1] at h; exact .inr h.symm
  have hi2e : i2 ≤ e := by rcases hX with ⟨_, h2, h3⟩ | h3 <;> omega
  have hs0e : s0 < e := by omega
  refine ⟨?_, ?_, ?_, by omega⟩
  · have a0 : numStart (x.take e) 0 = s0 := by
      have he0 : 0 < e := by omega
      unfold numStart
      rw [bt_takeL, if_pos he0]
      rcases hs1 with ⟨h1, h2⟩ | ⟨h1, h2⟩
      · rw [if_pos h1]; omega
      · rw [if_neg h1]; omega
    have a1 : digE (x.take e) s0 = min (digE x s0) e := digE_take (by omega)
    have a2 : numInt (x.take e) s0 = i1 := by
      unfold numInt
      rw [bt_takeL, if_pos hs0e, a1]
      rcases hI with ⟨h1, h2⟩ | ⟨h1, h2⟩
      · rw [if_pos h1]; omega
      · rw [if_neg h1]; omega
    have a3 : numFrac (x.take e) i1 = i2 := by
      unfold numFrac
      rw [bt_takeL]
      rcases hFr with ⟨⟨h1, h2⟩, h3⟩ | ⟨h1, h3⟩
      · have hlt : i1 < e := by omega
        have hm : i1 + 1 < min (digE x (i1 + 1)) e := by omega
        rw [if_pos hlt, digE_take (by omega), if_pos ⟨h1, hm⟩]; omega
      · by_cases hlt : i1 < e
        · rw [if_pos hlt, digE_take (by omega), if_neg (fun y => h1 ⟨y.1, by omega⟩)]; exact h3.symm
        · rw [if_neg hlt, if_neg (fun y => by have := y.1; omega)]; exact h3.symm
    have a4 : numExp (x.take e) i2 = e := by
      unfold numExp
      rcases hX with ⟨h1, h2, h3⟩ | h3
      · have hlt : i2 + 1 < e := by omega
        have hfs : expStart (x.take e) (i2 + 1) = f := by
          unfold expStart
          rw [bt_takeL, if_pos hlt]
          rcases hf1 with ⟨h4, h5⟩ | ⟨h4, h5⟩
          · rw [if_pos h4]; omega
          · rw [if_neg h4]; omega
        have he2 : i2 < e := by omega
        have hm : f < min (digE x f) e := by omega
        rw [bt_takeL, if_pos he2, if_pos h1, hfs, digE_take (by omega), if_pos hm]; omega
      · have he2 : ¬ i2 < e := by omega
        rw [bt_takeL, if_neg he2, if_neg (by omega)]; exact h3.symm
    have hne : ¬ min (digE x s0) e = s0 := by omega
    rw [a0, a1, if_neg hne, a2, a3, a4]
  · intro i hi
    have dg : ∀ a b, a ≤ b → b < digE x a → bt x b < 128 := fun a b h1 h2 => by have := digE_all h1 h2; unfold isDg at this; omega
    by_cases c1 : i < s0
    · rcases hs1 with ⟨h1, h2⟩ | ⟨h1, h2⟩
      · have : i = 0 := by omega
        subst this; omega
      · omega
    by_cases c2 : i < i1
    · rcases hI with ⟨h1, h2⟩ | ⟨h1, h2⟩
      · have : i = s0 := by omega
        subst this; omega
      · exact dg s0 i (by omega) (by omega)
    by_cases c3 : i < i2
    · rcases hFr with ⟨⟨h1, h2⟩, h3⟩ | ⟨h1, h3⟩
      · by_cases h4 : i = i1
        · subst h4; omega
        · exact dg (i1 + 1) i (by omega) (by omega)
      · omega
    rcases hX with ⟨h1, h2, h3⟩ | h3
    · by_cases h4 : i = i2
      · subst h4; omega
      by_cases h5 : i < f
      · have h6 : i = i2 + 1 := by omega
        rcases hf1 with ⟨h7, h8⟩ | ⟨h7, h8⟩
        · subst h6; omega
        · omega
      · exact dg f i (by omega) (by omega)
    · omega
  · rcases hs1 with ⟨h1, h2⟩ | ⟨h1, h2⟩
    · exact .inl h1
    · subst h2; exact .inr hp.2
end Go.Proofs.Ytdfnlcigbmiafaa

/- Plain: what Parse gives may come of Parse (chapter 10). -/
namespace Go.Proofs.Ytdfnlcigbmiafaa
set_option linter.unusedVariables false
set_option linter.unusedSimpArgs false
def tokOK (t : Tok) : Prop := good t.text = true ∧ (t.kind = 48 ∨ t.kind = 97 → aloneB t.text t.kind = true) ∧ (t.kind = 91 ∨ t.kind = 123 → t.text = [])
theorem good_low : ∀ (l : List UInt8), (∀ b ∈ l, b.toNat < 128) → good l = true
  | [], _ => good_nil
  | b :: l, h => by rw [good_ascii (h b (by simp)), good_low l (fun x hx => h x (by simp [hx]))]
theorem strJ_good : ∀ (m : Nat) (l : List UInt8), l.length ≤ m → ∀ t n, strJ l = some (t, n) → good t = true
  | m, [], _, t, n, h => by rw [strJ_nil] at h; cases h
  | 0, _ :: _, hl, t, n, h => by simp at hl
  | m + 1, a :: r, hl, t, n, h => by
    have h0 : a :: r ≠ [] := by simp
    rw [strJ_step h0] at h
    split at h
    · simp only [Option.some.injEq, Prod.mk.injEq] at h
      obtain ⟨rfl, rfl⟩ := h
      exact good_nil
    · split at h
      · cases h
      · rename_i x k ho
        have hb := oneJ_bound ho
        cases hs : strJ ((a :: r).drop k) with
        | none => rw [hs] at h; cases h
        | some p =>
          obtain ⟨u, j⟩ := p
          rw [hs] at h
          simp only [Option.map_some, Option.some.injEq, Prod.mk.injEq] at h
          obtain ⟨rfl, rfl⟩ := h
          have hle : ((a :: r).drop k).length ≤ m := by rw [List.length_drop]; simp only [List.length_cons] at *; omega
          rw [good_enc]
          exact strJ_good m _ hle u j hs
theorem bt_mem {l : List UInt8} {b : UInt8} (h : b ∈ l) : ∃ i, i < l.length ∧ bt l i = b.toNat := by
  obtain ⟨i, hi⟩ := List.getElem?_of_mem h
  have hl := (List.getElem?_eq_some_iff.1 hi).1
  exact ⟨i, hl, by simp [bt, List.getD_eq_getElem?_getD, hi]⟩
theorem num_ok {x : List UInt8} {e : Nat} (hx : e ≤ x.length) (h : numE x 0 = some e) : good (x.take e) = true ∧ aloneB (x.take e) 48 = true := by
  obtain ⟨h1, h2, h3, h4⟩ := numE_cut h
  have hlen : (x.take e).length = e := by rw [List.length_take]; omega
  have hb0 : bt (x.take e) 0 = bt x 0 := by rw [bt_takeL, if_pos h4]
  constructor
  · apply good_low
    intro b hb
    obtain ⟨i, hi, he⟩ := bt_mem hb
    rw [← he, bt_takeL, if_pos (by omega)]
    exact h2 i (by omega)
  · have hne : x.take e ≠ [] := by intro y; rw [y] at hlen; simp at hlen; omega
    have hc : bt x 0 = 45 ∨ (48 ≤ bt x 0 ∧ bt x 0 ≤ 57) := by unfold isDg at h3; omega
    have ht : toks (x.take e) = some [⟨48, x.take e, 0, e⟩] := by
      have ho : oneT (x.take e) 0 = some ⟨48, x.take e, 0, e⟩ := by
        rw [one_kind (by omega), hb0, if_neg (by unfold markK; omega), if_neg (by omega), if_neg (by omega)]
        unfold numTok
        rw [h1]
        dsimp only
        rw [List.drop_zero, Nat.sub_zero, List.take_take, Nat.min_self]
      rw [toks_step hne, hb0, if_neg (by unfold blankK; omega), ho]
      dsimp only
      rw [List.drop_eq_nil_of_le (by omega)]
      rfl
    unfold aloneB
    rw [ht]
    simp
theorem word_ok (w : List UInt8) (h1 : ∀ b ∈ w, b.toNat < 128) (h2 : aloneB w 97 = true) (k e : Nat) : tokOK ⟨97, w, k, e⟩ := ⟨good_low w h1, fun _ => h2, fun h => (by dsimp only at h; omega)⟩
theorem alone_true : aloneB tTrue 97 = true := by kernel_rfl
theorem alone_false : aloneB tFalse 97 = true := by kernel_rfl
theorem alone_null : aloneB tNull 97 = true := by kernel_rfl
theorem oneT_ok {l : List UInt8} {k : Nat} {t : Tok} (hk : k < l.length) (h : oneT l k = some t) : tokOK t := by
  unfold oneT at h
  split at h
  · rename_i hm
    cases h
    refine ⟨good_nil, fun h => ?_, fun _ => rfl⟩
    unfold markK at hm
    dsimp only at h
    omega
  split at h
  · split at h
    · cases h
    · rename_i u n hs
      cases h
      exact ⟨strJ_good _ _ (Nat.le_refl _) u n hs, fun h => (by dsimp only at h; omega), fun h => (by dsimp only at h; omega)⟩
  split at h
  · cases h; exact word_ok _ (by decide) alone_true _ _
  split at h
  · cases h; exact word_ok _ (by decide) alone_false _ _
  split at h
  · cases h; exact word_ok _ (by decide) alone_null _ _
  split at h
  · cases h
  · rename_i e he
    cases h
    have h1 := numE_drop l k 0
    rw [Nat.add_zero, he] at h1
    cases h2 : numE (l.drop k) 0 with
    | none => rw [h2] at h1; cases h1
    | some e0 =>
      rw [h2] at h1
      simp only [Option.map_some, Option.some.injEq] at h1
      have hb := numE_bd hk he
      obtain ⟨h3, h4⟩ := num_ok (x := l.drop k) (e := e0) (by rw [List.length_drop]; omega) h2
      have h5 : e - k = e0 := by omega
      refine ⟨by rw [h5]; exact h3, fun _ => by rw [h5]; exact h4, fun h => (by dsimp only at h; omega)⟩
theorem toksF_ok : ∀ (f : Nat) (l : List UInt8) (k : Nat) (ts : List Tok), toksF f l k = some ts → ∀ t ∈ ts, tokOK t ∧ t.text.length ≤ 4 * l.length
  | 0, l, k, ts, h => by unfold toksF at h; cases h; simp
  | f + 1, l, k, ts, h => by
    unfold toksF at h
    split at h
    · cases h; simp
    · split at h
      · exact toksF_ok f l (k + 1) ts h
      · split at h
        · cases h
        · rename_i h1 h2 t ho
          have hb := oneT_bd (by omega) ho
          cases hr : toksF f l t.to with
          | none => rw [hr] at h; cases h
          | some r =>
            rw [hr] at h
            cases h
            intro t' ht'
            rcases List.mem_cons.1 ht' with rfl | h3
            · exact ⟨oneT_ok (by omega) ho, hb.2.2.2.2⟩
            · exact toksF_ok f l t.to r hr t' h3
theorem fitsL_of {ns : List Node} {d : Nat} (h : ∀ n ∈ ns, fitsN n d = true) : fitsL ns d = true :=
  fitsL_at.2 fun j n hj => h n (List.mem_of_getElem? hj)
theorem SmallL_of {ns : List Node} (h : ∀ n ∈ ns, SmallN n) : SmallL ns := by
  induction ns with
  | nil => unfold SmallL; trivial
  | cons m ns ih => unfold SmallL; exact ⟨h m (by simp), ih fun n hn => h n (by simp [hn])⟩
theorem deepL_le {ns : List Node} : ∀ n ∈ ns, deepN n ≤ deepL ns := by
  induction ns with
  | nil => intro n hn; cases hn
  | cons m ns ih =>
    intro n hn
    rw [deepL]
    rcases List.mem_cons.1 hn with rfl | h
    · omega
    · have := ih n h; omega
theorem length_sizeL (ns : List Node) : ns.length ≤ sizeL ns := by
  induction ns with
  | nil => simp [sizeL]
  | cons m ns ih => cases m; simp only [sizeL, sizeN, List.length_cons]; omega
/-- What holds of what was read of a row or a map. -/
structure Good2 (map : Bool) (ks : List (List UInt8)) (ns : List Node) : Prop where
  len : map = true → ks.length = ns.length
  none : map = false → ks = []
  keys : ∀ k ∈ ks, good k = true ∧ k.length ≤ 100000
  kids : ∀ n ∈ ns, SmallN n ∧ ∀ d, d + deepN n ≤ 33 → fitsN n d = true
theorem elems_good {val : Nat → Option (Node × Nat)} {ts : List Tok} {map : Bool} {endk : Nat} (hts : ∀ t ∈ ts, tokOK t ∧ t.text.length ≤ 100000) (hv : ∀ k n k2, val k = some (n, k2) → SmallN n ∧ ∀ d, d + deepN n ≤ 33 → fitsN n d = true) :
    ∀ (g k : Nat) (ks : List (List UInt8)) (ns : List Node) (ks' : List (List UInt8)) (ns' : List Node) (k' : Nat), elems val ts map endk g k ks ns = some (ks', ns', k') → Good2 map ks ns → Good2 map ks' ns'
  | 0, k, ks, ns, ks', ns', k', h, hg => by cases h
  | g + 1, k, ks, ns, ks', ns', k', h, hg => by
    unfold elems at h
    split at h
    · cases h
    · split at h
      · cases h
      · rename_i n k2 hval
        have h1 := hv _ _ _ hval
        have hx : good (txt ts k) = true ∧ (txt ts k).length ≤ 100000 := by
          unfold txt
          cases ht : ts[k]? with
          | none => exact ⟨good_nil, by simp⟩
          | some t => have := hts t (List.mem_of_getElem? ht); exact ⟨this.1.1, this.2⟩
        have hn : Good2 map (if map then ks ++ [txt ts k] else ks) (ns ++ [n]) := by
          refine ⟨fun h => ?_, fun h => ?_, fun u hu => ?_, fun m hm => ?_⟩
          · rw [if_pos h, List.length_append, List.length_append, hg.len h]; rfl
          · rw [h, if_neg (by simp)]; exact hg.none h
          · cases map
            · rw [if_neg (by simp)] at hu; exact hg.keys u hu
            · rw [if_pos rfl] at hu
              rcases List.mem_append.1 hu with h2 | h2
              · exact hg.keys u h2
              · rw [List.mem_singleton.1 h2]; exact hx
          · rcases List.mem_append.1 hm with h2 | h2
            · exact hg.kids m h2
            · rw [List.mem_singleton.1 h2]; exact h1
        split at h
        · simp only [Option.some.injEq, Prod.mk.injEq] at h
          obtain ⟨rfl, rfl, _⟩ := h
          exact hn
        · split at h
          · exact elems_good hts hv g _ _ _ _ _ _ h hn
          · cases h
theorem val_good {ts : List Tok} (hts : ∀ t ∈ ts, tokOK t ∧ t.text.length ≤ 100000) (hl : ts.length ≤ 100000) : ∀ (f k : Nat) (n : Node) (k2 : Nat), valI f ts k = some (n, k2) → SmallN n ∧ ∀ d, d + deepN n ≤ 33 → fitsN n d = true
  | 0, k, n, k2, h => by cases h
  | f + 1, k, n, k2, h => by
    have hsz := valI_size _ _ _ _ _ h
    have hbd := valI_bd _ _ _ _ _ h
    obtain ⟨t, ht, hkind⟩ := valI_head h
    obtain ⟨⟨g1, g2, g3⟩, g4⟩ := hts t (List.mem_of_getElem? ht)
    rw [valI_at ht] at h
    by_cases q1 : t.kind = 34 ∨ t.kind = 48 ∨ t.kind = 97
    · rw [if_pos q1] at h
      cases h
      refine ⟨by unfold SmallN SmallL; exact ⟨g4, fun k hk => (by cases hk), by simp, by simp, trivial⟩, fun d hd => ?_⟩
      simp only [deepN, deepL] at hd
      rw [fitsN, decide_eq_true (by omega : d ≤ 32), g1]
      by_cases q34 : t.kind = 34
      · simp [okK, q34, fitsL]
      · have := g2 (by omega)
        have q2 : t.kind = 48 ∨ t.kind = 97 := by omega
        simp [okK, q34, q2, this, fitsL]
    rw [if_neg q1, if_neg (by omega)] at h
    have htx := g3 (by omega)
    obtain ⟨map, hmap⟩ : ∃ map, decide (t.kind = 123) = map := ⟨_, rfl⟩
    have fin : ∀ (ks : List (List UInt8)) (ns : List Node), Good2 map ks ns → n = .mk t.kind t.text ks ns → SmallN n ∧ ∀ d, d + deepN n ≤ 33 → fitsN n d = true := by
      intro ks ns hg hn
      have hnl : ns.length ≤ 100000 := by
        have := length_sizeL ns
        rw [hn] at hsz
        simp only [sizeN] at hsz
        omega
      have hkl : ks.length ≤ 100000 := by
        cases map
        · rw [hg.none rfl]; simp
        · rw [hg.len rfl]; exact hnl
      rw [hn]
      refine ⟨by unfold SmallN; exact ⟨g4, fun k hk => (hg.keys k hk).2, hkl, hnl, SmallL_of fun m hm => (hg.kids m hm).1⟩, fun d hd => ?_⟩
      rw [deepN] at hd
      have hL : fitsL ns (d + 1) = true := fitsL_of fun m hm => (hg.kids m hm).2 (d + 1) (by have := deepL_le m hm; omega)
      rw [fitsN, decide_eq_true (by omega : d ≤ 32), g1, hL]
      cases map
      · have h91 : t.kind = 91 := by have : t.kind ≠ 123 := by simpa using hmap
                                     omega
        rw [h91, htx, hg.none rfl]; rfl
      · have h123 : t.kind = 123 := by simpa using hmap
        have ha : (ks.all fun k => good k) = true := List.all_eq_true.2 fun k hk => (hg.keys k hk).1
        rw [h123, htx]
        show (true && true && (decide (ks.length = ns.length) && (ks.all fun k => good k) && decide (([] : List UInt8) = [])) && true) = true
        rw [ha, decide_eq_true (hg.len rfl)]; rfl
    have g0 : Good2 map [] [] := ⟨fun _ => rfl, fun _ => rfl, fun k hk => (by cases hk), fun m hm => (by cases hm)⟩
    obtain ⟨E, hE⟩ : ∃ E, (if t.kind = 123 then 125 else 93) = E := ⟨_, rfl⟩
    rw [hE, hmap] at h
    by_cases h3 : isK ts (k + 1) E = true
    · rw [if_pos h3] at h
      simp only [Option.some.injEq, Prod.mk.injEq] at h
      exact fin [] [] g0 h.1.symm
    · rw [if_neg h3] at h
      cases he : elems (fun j => valI f ts j) ts map E ts.length (k + 1) [] [] with
      | none => rw [he] at h; cases h
      | some out =>
        obtain ⟨ks, ns, k3⟩ := out
        rw [he] at h
        simp only [Option.some.injEq, Prod.mk.injEq] at h
        exact fin ks ns (elems_good hts (fun k n k2 h => val_good hts hl f k n k2 h) _ _ _ _ _ _ _ he g0) h.1.symm
/-- What Parse gives may come of Parse. -/
theorem parse_fits {l : List UInt8} {n : Node} (hl : l.length ≤ 25000) (h : parseJ l = .ok n) : SmallN n ∧ fitsN n 1 = true := by
  unfold parseJ at h
  split at h
  · cases h
  · rename_i ts htk
    have hlen := toks_len htk
    have hok := toksF_ok _ _ _ _ htk
    split at h
    · cases h
    · rename_i m k hv
      split at h
      · split at h
        · cases h
        · rename_i h1 h2
          cases h
          obtain ⟨h3, h4⟩ := val_good (fun t ht => ⟨(hok t ht).1, by have := (hok t ht).2; omega⟩) (by omega) _ _ _ _ hv
          exact ⟨h3, h4 1 (by omega)⟩
      · cases h
end Go.Proofs.Ytdfnlcigbmiafaa

/- Plain: rows and maps in one another, so deep (chapter 10). -/
namespace Go.Proofs.Ytdfnlcigbmiafaa
set_option linter.unusedVariables false
set_option linter.unusedSimpArgs false
def brK (b : Bool) : List UInt8 := if b then [123, 34, 97, 34, 58] else [91]
def clK (b : Bool) : UInt8 := if b then 125 else 93
/-- The brackets that open, the outermost first. -/
def opT : List Bool → List UInt8
  | [] => []
  | b :: bs => brK b ++ opT bs
def clT : List Bool → List UInt8
  | [] => []
  | b :: bs => clT bs ++ [clK b]
theorem opT_snoc : ∀ (bs : List Bool) (b : Bool), opT (bs ++ [b]) = opT bs ++ brK b
  | [], b => by simp [opT]
  | a :: bs, b => by rw [List.cons_append, opT, opT_snoc bs b, opT, List.append_assoc]
theorem clT_snoc : ∀ (bs : List Bool) (b : Bool), clT (bs ++ [b]) = clK b :: clT bs
  | [], b => rfl
  | a :: bs, b => by rw [List.cons_append, clT, clT_snoc bs b, clT]; rfl
def kinds (l : List UInt8) : Option (List Nat) := (toks l).map (List.map Tok.kind)
theorem kinds_shift (o : Option (List Tok)) (d : Nat) (t : Tok) : ((o.map (List.map (shiftT d))).map (t :: ·)).map (List.map Tok.kind) = (o.map (List.map Tok.kind)).map (t.kind :: ·) := by
  cases o with
  | none => rfl
  | some ts => simp [shiftT]
theorem kinds_nil : kinds [] = some [] := rfl
theorem kinds_mark {c : UInt8} (hc : markK c.toNat) (t : List UInt8) : kinds (c :: t) = (kinds t).map (c.toNat :: ·) := by
  unfold kinds; rw [toks_mark hc, kinds_shift]
theorem kinds_br (b : Bool) (t : List UInt8) : kinds (brK b ++ t) = (kinds t).map ((if b then [123, 34, 58] else [91]) ++ ·) := by
  cases b
  · show kinds (91 :: t) = _
    rw [kinds_mark (by decide)]; rfl
  · show kinds (123 :: 34 :: (writeJ [97] ++ 34 :: 58 :: t)) = _
    rw [kinds_mark (by decide)]
    have h : kinds (34 :: (writeJ [97] ++ 34 :: 58 :: t)) = (kinds (58 :: t)).map (34 :: ·) := by
      unfold kinds; rw [toks_str (u := [97]) (by rfl), kinds_shift]
    rw [h, kinds_mark (by decide)]
    cases kinds t <;> rfl
theorem kinds_num {t : List UInt8} (h1 : ¬ isDg (bt t 0)) (h2 : bt t 0 ≠ 46) (h3 : bt t 0 ≠ 101) (h4 : bt t 0 ≠ 69) : kinds (49 :: t) = (kinds t).map (48 :: ·) := by
  have hb : ∀ i, bt (49 :: t) (i + 1) = bt t i := bt_cs 49 t
  have hd : digE (49 :: t) 0 = 1 := by
    have hd0 : isDg (bt (49 :: t) 0) := (by decide : isDg 49)
    have hl0 : 0 < (49 :: t : List UInt8).length := by simp
    rw [digE_yes hl0 hd0, digE_no (by rw [hb]; exact h1)]
  have hn : numE (49 :: t) 0 = some 1 := by
    have e0 : numStart (49 :: t) 0 = 0 := rfl
    have e1 : numInt (49 :: t) 0 = 1 := by unfold numInt; rw [hd]; rfl
    have e2 : numFrac (49 :: t) 1 = 1 := by unfold numFrac; rw [hb 0, if_neg (fun x => h2 x.1)]
    have e3 : numExp (49 :: t) 1 = 1 := by unfold numExp; rw [hb 0, if_neg (fun x => by rcases x with x | x; exact h3 x; exact h4 x)]
    unfold numE
    rw [e0, hd, if_neg (by omega), e1, e2, e3]
  have ho : oneT (49 :: t) 0 = some ⟨48, [49], 0, 1⟩ := by
    rw [one_kind (by simp), bt_c0, if_neg (by decide), if_neg (by decide), if_neg (by decide)]
    unfold numTok
    rw [hn]; rfl
  unfold kinds
  rw [toks_step (by simp), bt_c0, if_neg (by decide), ho, kinds_shift]
  rfl
def shK : Sh → List Nat → Option Sh
  | st, [] => some st
  | st, c :: cs => match stepSh st c with
    | none => none
    | some st' => shK st' cs
theorem shS_shK : ∀ (ts : List Tok) (st : Sh), shS st ts = shK st (ts.map Tok.kind)
  | [], st => rfl
  | t :: ts, st => by
    rw [shS, List.map_cons, shK]
    cases stepSh st t.kind with
    | none => rfl
    | some st' => exact shS_shK ts st'
def kOp (bs : List Bool) : List Nat := bs.flatMap fun b => if b then [123, 34, 58] else [91]
def kCl (bs : List Bool) : List Nat := (clT bs).map UInt8.toNat
theorem kinds_open : ∀ (bs : List Bool) (t : List UInt8), kinds (opT bs ++ t) = (kinds t).map (kOp bs ++ ·)
  | [], t => by simp [opT, kOp]
  | b :: bs, t => by
    rw [opT, List.append_assoc, kinds_br, kinds_open bs t]
    cases kinds t with
    | none => rfl
    | some ks => simp [kOp]
theorem kinds_close : ∀ (l : List UInt8) (t : List UInt8), (∀ c ∈ l, markK c.toNat) → kinds (l ++ t) = (kinds t).map (l.map UInt8.toNat ++ ·)
  | [], t, _ => by simp
  | c :: l, t, h => by
    rw [List.cons_append, kinds_mark (h c (by simp)), kinds_close l t (fun x hx => h x (by simp [hx]))]
    cases kinds t <;> rfl
theorem cl_mark : ∀ (bs : List Bool), ∀ c ∈ clT bs, c = 125 ∨ c = 93
  | [], c, h => by cases h
  | b :: bs, c, h => by
    rw [clT] at h
    rcases List.mem_append.1 h with h | h
    · exact cl_mark bs c h
    · rw [List.mem_singleton] at h; subst h; cases b <;> simp [clK]
theorem run_open : ∀ (bs : List Bool) (op : List Nat) (d wt : Nat) (r : List Nat), wt = 0 ∨ wt = 1 → ∃ wt', (wt' = 0 ∨ wt' = 1) ∧ shK ⟨op, d, wt⟩ (kOp bs ++ r) = shK ⟨(bs.map kK).reverse ++ op, if bs = [] then d else max d (op.length + bs.length), wt'⟩ r
  | [], op, d, wt, r, h => ⟨wt, h, by simp [kOp]⟩
  | b :: bs, op, d, wt, r, h => by
    have h1 : ∃ wt1, (wt1 = 0 ∨ wt1 = 1) ∧ shK ⟨op, d, wt⟩ (kOp (b :: bs) ++ r) = shK ⟨kK b :: op, max d (op.length + 1), wt1⟩ (kOp bs ++ r) := by
      cases b
      · refine ⟨1, .inr rfl, ?_⟩
        show shK ⟨op, d, wt⟩ (91 :: (kOp bs ++ r)) = _
        rw [shK, st_push h (.inl rfl)]; rfl
      · refine ⟨0, .inl rfl, ?_⟩
        show shK ⟨op, d, wt⟩ (123 :: 34 :: 58 :: (kOp bs ++ r)) = _
        rw [shK, st_push h (.inr rfl)]
        dsimp only
        rw [shK, show (if (123 : Nat) = 123 then 3 else 1) = 3 from rfl, st_key (.inr rfl)]
        dsimp only
        rw [shK, st_colon]; rfl
    obtain ⟨wt1, hw1, e1⟩ := h1
    obtain ⟨wt2, hw2, e2⟩ := run_open bs (kK b :: op) (max d (op.length + 1)) wt1 r hw1
    refine ⟨wt2, hw2, ?_⟩
    rw [e1, e2]
    congr 2
    · simp
    · rw [if_neg (show ¬ (b :: bs = []) from fun x => by cases x)]
      by_cases hb : bs = []
      · subst hb; rfl
      · rw [if_neg hb]; simp only [List.length_cons]; omega
theorem run_close : ∀ (bs : List Bool) (op : List Nat) (d : Nat) (r : List Nat), shK ⟨(bs.map kK).reverse ++ op, d, 5⟩ (kCl bs ++ r) = shK ⟨op, d, 5⟩ r
  | [], op, d, r => rfl
  | b :: bs, op, d, r => by
    have e : kCl (b :: bs) ++ r = kCl bs ++ ((clK b).toNat :: r) := by simp [kCl, clT]
    rw [e, List.map_cons, List.reverse_cons, List.append_assoc, run_close bs _ d _]
    show shK ⟨kK b :: op, d, 5⟩ ((clK b).toNat :: r) = _
    rw [shK, st_pop (.inr (.inr rfl)) (by rw [endB_K]; cases b <;> rfl)]; rfl
def nestT (bs : List Bool) : List UInt8 := opT bs ++ [49] ++ clT bs
theorem clT_head (bs : List Bool) (r : List UInt8) (hr : bt r 0 = 0 ∨ bt r 0 = 93) : bt (clT bs ++ r) 0 = 0 ∨ bt (clT bs ++ r) 0 = 93 ∨ bt (clT bs ++ r) 0 = 125 := by
  cases h : clT bs with
  | nil => rw [List.nil_append]; omega
  | cons c l =>
    have := cl_mark bs c (by rw [h]; simp)
    rw [List.cons_append, bt_c0]
    rcases this with rfl | rfl
    · exact .inr (.inr rfl)
    · exact .inr (.inl rfl)
theorem kinds_nest (bs : List Bool) (r : List UInt8) (hr : bt r 0 = 0 ∨ bt r 0 = 93) : kinds (nestT bs ++ r) = (kinds r).map (fun x => kOp bs ++ (48 :: (kCl bs ++ x))) := by
  have hh := clT_head bs r hr
  have e : nestT bs ++ r = opT bs ++ (49 :: (clT bs ++ r)) := by unfold nestT; simp
  rw [e, kinds_open, kinds_num (by unfold isDg; omega) (by omega) (by omega) (by omega), kinds_close _ _ (fun c hc => by rcases cl_mark bs c hc with rfl | rfl <;> decide)]
  cases kinds r <;> rfl
theorem run_nest (bs : List Bool) (x : List Nat) : shK ⟨[], 0, 0⟩ (kOp bs ++ (48 :: (kCl bs ++ x))) = shK ⟨[], bs.length + 1, 5⟩ x := by
  obtain ⟨wt, hw, h⟩ := run_open bs [] 0 0 (48 :: (kCl bs ++ x)) (.inl rfl)
  rw [h, shK, st_leaf hw (.inr (.inl rfl))]
  dsimp only
  rw [run_close]
  congr 2
  simp only [List.append_nil, List.length_reverse, List.length_map, List.length_nil]
  split <;> rename_i h1
  · subst h1; rfl
  · omega
theorem kinds_toks {l : List UInt8} {ks : List Nat} (h : kinds l = some ks) : ∃ ts, toks l = some ts ∧ ts.map Tok.kind = ks := by
  unfold kinds at h
  cases ht : toks l with
  | none => rw [ht] at h; cases h
  | some ts => rw [ht] at h; exact ⟨ts, rfl, Option.some.inj h⟩
/-- A nest of rows and maps: what it is read as. -/
theorem parse_nest (bs : List Bool) : (32 < bs.length + 1 ∧ parseJ (nestT bs) = .error 8) ∨ (bs.length + 1 ≤ 32 ∧ ∃ n, parseJ (nestT bs) = .ok n) := by
  have hk := kinds_nest bs [] (.inl rfl)
  rw [List.append_nil, kinds_nil] at hk
  obtain ⟨ts, ht, hks⟩ := kinds_toks hk
  have hs : shapeN ts = bs.length + 1 := by
    unfold shapeN
    rw [shS_shK, hks, run_nest]
    rfl
  rcases parse_shape ht with ⟨h1, h2⟩ | ⟨h1, h2⟩ | ⟨h1, h2, n, _, h3⟩
  · omega
  · exact .inl ⟨by omega, h2⟩
  · exact .inr ⟨by omega, n, h3⟩
theorem parse_over (bs : List Bool) : parseJ (nestT bs ++ [93]) = .error 7 := by
  have hk := kinds_nest bs [93] (.inr rfl)
  rw [kinds_mark (by decide), kinds_nil] at hk
  obtain ⟨ts, ht, hks⟩ := kinds_toks hk
  have hs : shapeN ts = 0 := by
    unfold shapeN
    rw [shS_shK, hks, run_nest]
    rfl
  rcases parse_shape ht with ⟨h1, h2⟩ | ⟨h1, h2⟩ | ⟨h1, h2, n, _, h3⟩
  · exact h2
  · omega
  · omega
theorem opT_len : ∀ bs : List Bool, (opT bs).length ≤ 5 * bs.length
  | [] => by simp [opT]
  | b :: bs => by rw [opT, List.length_append, List.length_cons]; have := opT_len bs; cases b <;> simp [brK] <;> omega
theorem clT_len : ∀ bs : List Bool, (clT bs).length = bs.length
  | [] => rfl
  | b :: bs => by rw [clT, List.length_append, clT_len bs]; rfl
end Go.Proofs.Ytdfnlcigbmiafaa

/- Plain: a value among other tokens is the same value (chapters 10, 37). -/
namespace Go.Proofs.Ytdfnlcigbmiafaa
set_option linter.unusedVariables false
set_option linter.unusedSimpArgs false
theorem get_ext {pre ts post : List Tok} {j : Nat} (h : j < ts.length) : (pre ++ ts ++ post)[pre.length + j]? = ts[j]? := by
  rw [List.append_assoc, List.getElem?_append_right (by omega), Nat.add_sub_cancel_left, List.getElem?_append_left h]
theorem isK_ext {pre ts post : List Tok} {j c : Nat} (h : j < ts.length) : isK (pre ++ ts ++ post) (pre.length + j) c = isK ts j c := by
  unfold isK; rw [get_ext h]
theorem txt_ext {pre ts post : List Tok} {j : Nat} (h : j < ts.length) : txt (pre ++ ts ++ post) (pre.length + j) = txt ts j := by
  unfold txt; rw [get_ext h]
theorem elems_more {val : Nat → Option (Node × Nat)} {ts : List Tok} {map : Bool} {E : Nat} : ∀ (G m k : Nat) (ks : List (List UInt8)) (ns : List Node) (out : List (List UInt8) × List Node × Nat), elems val ts map E G k ks ns = some out → elems val ts map E (G + m) k ks ns = some out
  | 0, m, k, ks, ns, out, h => by cases h
  | G + 1, m, k, ks, ns, out, h => by
    rw [show G + 1 + m = (G + m) + 1 by omega]
    unfold elems at h ⊢
    split at h
    · cases h
    · rename_i h1
      rw [if_neg h1]
      split at h
      · cases h
      · rename_i n k2 hv
        split at h
        · rename_i h2; rw [if_pos h2]; exact h
        · rename_i h2
          rw [if_neg h2]
          split at h
          · rename_i h3; rw [if_pos h3]; exact elems_more G m _ _ _ _ h
          · cases h
theorem elems_ext {val val' : Nat → Option (Node × Nat)} {pre ts post : List Tok} {map : Bool} {E : Nat} (hv : ∀ k n k2, val k = some (n, k2) → k < k2 ∧ k2 ≤ ts.length ∧ k < ts.length ∧ val' (pre.length + k) = some (n, pre.length + k2)) :
    ∀ (G k : Nat) (ks : List (List UInt8)) (ns : List Node) (ks' : List (List UInt8)) (ns' : List Node) (k' : Nat), elems val ts map E G k ks ns = some (ks', ns', k') → elems val' (pre ++ ts ++ post) map E G (pre.length + k) ks ns = some (ks', ns', pre.length + k')
  | 0, k, ks, ns, ks', ns', k', h => by cases h
  | G + 1, k, ks, ns, ks', ns', k', h => by
    unfold elems at h ⊢
    by_cases hm : map = true ∧ ¬ (isK ts k 34 = true ∧ isK ts (k + 1) 58 = true)
    · rw [if_pos hm] at h; cases h
    rw [if_neg hm] at h
    have hkey : map = true → isK ts k 34 = true ∧ isK ts (k + 1) 58 = true := fun h1 => by
      by_cases h2 : isK ts k 34 = true ∧ isK ts (k + 1) 58 = true
      · exact h2
      · exact absurd ⟨h1, h2⟩ hm
    have hm2 : ¬ (map = true ∧ ¬ (isK (pre ++ ts ++ post) (pre.length + k) 34 = true ∧ isK (pre ++ ts ++ post) (pre.length + k + 1) 58 = true)) := fun x => x.2 (by
      obtain ⟨h1, h2⟩ := hkey x.1
      exact ⟨by rw [isK_ext (isK_lt h1)]; exact h1, by rw [Nat.add_assoc, isK_ext (isK_lt h2)]; exact h2⟩)
    rw [if_neg hm2]
    obtain ⟨p, hp⟩ : ∃ p, (if map then k + 2 else k) = p := ⟨_, rfl⟩
    have hp2 : (if map then pre.length + k + 2 else pre.length + k) = pre.length + p := by rw [← hp]; cases map <;> simp <;> omega
    rw [hp] at h
    rw [hp2]
    cases hval : val p with
    | none => rw [hval] at h; cases h
    | some r =>
      obtain ⟨n, k2⟩ := r
      rw [hval] at h
      obtain ⟨b1, b2, b3, hv'⟩ := hv p n k2 hval
      rw [hv']
      dsimp only at h ⊢
      have htx : (if map then ks ++ [txt (pre ++ ts ++ post) (pre.length + k)] else ks) = (if map then ks ++ [txt ts k] else ks) := by
        cases map
        · rfl
        · rw [if_pos rfl, if_pos rfl, txt_ext (isK_lt (hkey rfl).1)]
      rw [htx]
      by_cases h1 : isK ts k2 E = true
      · rw [if_pos h1] at h
        rw [if_pos (by rw [isK_ext (isK_lt h1)]; exact h1)]
        simp only [Option.some.injEq, Prod.mk.injEq] at h ⊢
        obtain ⟨a1, a2, a3⟩ := h
        exact ⟨a1, a2, by omega⟩
      · rw [if_neg h1] at h
        by_cases h2 : isK ts k2 44 = true
        · rw [if_pos h2] at h
          rw [if_neg (by rw [isK_ext (isK_lt h2)]; exact h1), if_pos (by rw [isK_ext (isK_lt h2)]; exact h2)]
          have := elems_ext (post := post) hv G (k2 + 1) _ _ _ _ _ h
          rw [← Nat.add_assoc] at this
          exact this
        · rw [if_neg h2] at h; cases h
/-- A value among other tokens. -/
theorem val_ext {pre ts post : List Tok} : ∀ (f k : Nat) (n : Node) (k2 : Nat), valI f ts k = some (n, k2) → valI f (pre ++ ts ++ post) (pre.length + k) = some (n, pre.length + k2)
  | 0, k, n, k2, h => by cases h
  | f + 1, k, n, k2, h => by
    have hbd := valI_bd _ _ _ _ _ h
    obtain ⟨t, ht, _⟩ := valI_head h
    have hk := (List.getElem?_eq_some_iff.1 ht).1
    have ht2 : (pre ++ ts ++ post)[pre.length + k]? = some t := by rw [get_ext hk]; exact ht
    rw [valI_at ht] at h
    rw [valI_at ht2]
    by_cases q1 : t.kind = 34 ∨ t.kind = 48 ∨ t.kind = 97
    · rw [if_pos q1] at h ⊢
      simp only [Option.some.injEq, Prod.mk.injEq] at h ⊢
      exact ⟨h.1, by omega⟩
    rw [if_neg q1] at h ⊢
    by_cases q2 : t.kind ≠ 91 ∧ t.kind ≠ 123
    · rw [if_pos q2] at h; cases h
    rw [if_neg q2] at h ⊢
    obtain ⟨E, hE⟩ : ∃ E, (if t.kind = 123 then 125 else 93) = E := ⟨_, rfl⟩
    rw [hE] at h ⊢
    rw [Nat.add_assoc]
    by_cases q3 : isK ts (k + 1) E = true
    · rw [if_pos q3] at h
      rw [if_pos (by rw [isK_ext (isK_lt q3)]; exact q3)]
      simp only [Option.some.injEq, Prod.mk.injEq] at h ⊢
      exact ⟨h.1, by omega⟩
    · rw [if_neg q3] at h
      cases he : elems (fun j => valI f ts j) ts (decide (t.kind = 123)) E ts.length (k + 1) [] [] with
      | none => rw [he] at h; cases h
      | some out =>
        obtain ⟨ks, ns, k3⟩ := out
        rw [he] at h
        obtain ⟨t1, ht1, _⟩ := elems_head he
        have hk1 := (List.getElem?_eq_some_iff.1 ht1).1
        rw [if_neg (by rw [isK_ext hk1]; exact q3)]
        have h2 := elems_ext (val' := fun j => valI f (pre ++ ts ++ post) j) (pre := pre) (post := post) (fun k n k2 hv => ⟨(valI_bd _ _ _ _ _ hv).1, (valI_bd _ _ _ _ _ hv).2, by have := valI_bd _ _ _ _ _ hv; omega, val_ext f k n k2 hv⟩) _ _ _ _ _ _ _ he
        have h3 := elems_more _ (pre.length + post.length) _ _ _ _ h2
        rw [show (pre ++ ts ++ post).length = ts.length + (pre.length + post.length) by simp; omega, h3]
        simp only [Option.some.injEq, Prod.mk.injEq] at h ⊢
        exact ⟨h.1, by omega⟩
/-- Where its tokens stand in the text is no matter. -/
theorem isK_shift (ts : List Tok) (d k c : Nat) (sh : Tok → Tok) (hs : ∀ t, (sh t).kind = t.kind ∧ (sh t).text = t.text) : isK (ts.map sh) k c = isK ts k c ∧ txt (ts.map sh) k = txt ts k := by
  unfold isK txt
  rw [List.getElem?_map]
  cases ts[k]? with
  | none => exact ⟨rfl, rfl⟩
  | some t => exact ⟨by simp [(hs t).1], by simp [(hs t).2]⟩
theorem elems_shift {val : Nat → Option (Node × Nat)} {ts : List Tok} {map : Bool} {E : Nat} (sh : Tok → Tok) (hs : ∀ t, (sh t).kind = t.kind ∧ (sh t).text = t.text) : ∀ (G k : Nat) (ks : List (List UInt8)) (ns : List Node), elems val (ts.map sh) map E G k ks ns = elems val ts map E G k ks ns
  | 0, k, ks, ns => rfl
  | G + 1, k, ks, ns => by
    unfold elems
    rw [(isK_shift ts 0 k 34 sh hs).1, (isK_shift ts 0 (k + 1) 58 sh hs).1, (isK_shift ts 0 k 34 sh hs).2]
    split
    · rfl
    · split
      · rfl
      · rename_i n k2 hv
        rw [(isK_shift ts 0 k2 E sh hs).1, (isK_shift ts 0 k2 44 sh hs).1]
        split
        · rfl
        · split
          · exact elems_shift sh hs G _ _ _
          · rfl
theorem val_shift {ts : List Tok} (sh : Tok → Tok) (hs : ∀ t, (sh t).kind = t.kind ∧ (sh t).text = t.text) : ∀ (f k : Nat), valI f (ts.map sh) k = valI f ts k
  | 0, k => rfl
  | f + 1, k => by
    rcases Nat.lt_or_ge k ts.length with hk | hk
    · have ht : ts[k]? = some ts[k] := List.getElem?_eq_getElem hk
      have ht2 : (ts.map sh)[k]? = some (sh ts[k]) := by rw [List.getElem?_map, ht]; rfl
      rw [valI_at ht, valI_at ht2, (hs ts[k]).1, (hs ts[k]).2, (isK_shift ts 0 (k + 1) _ sh hs).1, List.length_map, elems_shift sh hs]
      have hf : (fun j => valI f (ts.map sh) j) = (fun j => valI f ts j) := funext fun j => val_shift sh hs f j
      rw [hf]
    · rw [valI_out hk, valI_out (by rw [List.length_map]; exact hk)]
end Go.Proofs.Ytdfnlcigbmiafaa

/- Plain: rows in one another, without anything in the last (chapter 37). -/
namespace Go.Proofs.Ytdfnlcigbmiafaa
set_option linter.unusedVariables false
set_option linter.unusedSimpArgs false
def rowsT (k : Nat) : List UInt8 := List.replicate k 91 ++ List.replicate k 93
theorem rows_open : ∀ (k : Nat) (op : List Nat) (d wt : Nat) (r : List Nat), wt = 0 ∨ wt = 1 → shK ⟨op, d, wt⟩ (List.replicate (k + 1) 91 ++ r) = shK ⟨List.replicate (k + 1) 91 ++ op, max d (op.length + k + 1), 1⟩ r
  | 0, op, d, wt, r, h => by
    show shK ⟨op, d, wt⟩ (91 :: r) = _
    rw [shK, st_push h (.inl rfl)]; rfl
  | k + 1, op, d, wt, r, h => by
    rw [List.replicate_succ, List.cons_append, shK, st_push h (.inl rfl)]
    dsimp only
    rw [show (if (91 : Nat) = 123 then 3 else 1) = 1 from rfl, rows_open k (91 :: op) (max d (op.length + 1)) 1 r (.inr rfl)]
    have e : List.replicate (k + 1) 91 ++ 91 :: op = 91 :: List.replicate (k + 1) 91 ++ op := by
      rw [← List.replicate_succ, List.replicate_succ' (n := k + 1), List.append_assoc]; rfl
    rw [e]
    congr 2
    simp only [List.length_cons]; omega
theorem rows_close : ∀ (k : Nat) (op : List Nat) (d wt : Nat) (r : List Nat), wt = 1 ∨ wt = 3 ∨ wt = 5 → shK ⟨List.replicate (k + 1) 91 ++ op, d, wt⟩ (List.replicate (k + 1) 93 ++ r) = shK ⟨op, d, 5⟩ r
  | 0, op, d, wt, r, h => by
    show shK ⟨91 :: op, d, wt⟩ (93 :: r) = _
    rw [shK, st_pop h (by rfl)]; rfl
  | k + 1, op, d, wt, r, h => by
    rw [List.replicate_succ, List.cons_append, List.replicate_succ (n := k + 1) (a := 93), List.cons_append, shK, st_pop h (by rfl)]
    dsimp only
    rw [List.tail_cons]
    exact rows_close k op d 5 r (.inr (.inr rfl))
/-- Rows in one another: what they are read as. -/
theorem parse_rows (k : Nat) : (32 < k + 1 ∧ parseJ (rowsT (k + 1)) = .error 8) ∨ (k + 1 ≤ 32 ∧ ∃ n, parseJ (rowsT (k + 1)) = .ok n ∧ deepN n = k + 1) := by
  have h1 := kinds_close (List.replicate (k + 1) 91 ++ List.replicate (k + 1) 93) [] (fun c hc => by
    rcases List.mem_append.1 hc with h | h
    · rw [List.eq_of_mem_replicate h]; decide
    · rw [List.eq_of_mem_replicate h]; decide)
  rw [List.append_nil, kinds_nil] at h1
  obtain ⟨ts, ht, hks⟩ := kinds_toks h1
  have hk2 : ts.map Tok.kind = List.replicate (k + 1) 91 ++ (List.replicate (k + 1) 93 ++ []) := by rw [hks]; simp
  have hs : shapeN ts = k + 1 := by
    unfold shapeN
    rw [shS_shK, hk2, rows_open k [] 0 0 _ (.inl rfl), rows_close k [] _ 1 [] (.inl rfl)]
    simp [shK]
  have ht2 : toks (rowsT (k + 1)) = some ts := ht
  rcases parse_shape ht2 with ⟨h1, h2⟩ | ⟨h1, h2⟩ | ⟨h1, h2, n, hv, h3⟩
  · omega
  · exact .inl ⟨by omega, h2⟩
  · refine .inr ⟨by omega, n, h3, ?_⟩
    have h4 := shape_val ts
    have h5 : val ts = some (n, ts.length) := hv
    rw [h5, hs] at h4
    dsimp only at h4
    rw [if_pos rfl] at h4
    exact h4.symm
end Go.Proofs.Ytdfnlcigbmiafaa

/- Plain: a text's tokens ahead of a bracket (chapters 10, 37). -/
namespace Go.Proofs.Ytdfnlcigbmiafaa
set_option linter.unusedVariables false
set_option linter.unusedSimpArgs false
theorem bt_app {l x : List UInt8} {i : Nat} (h : i < l.length) : bt (l ++ x) i = bt l i := by
  unfold bt
  rw [List.getD_eq_getElem?_getD, List.getD_eq_getElem?_getD, List.getElem?_append_left h]
theorem byteAt_app {l x : List UInt8} {k v : Nat} (h : byteAt l k = some v) : byteAt (l ++ x) k = some v := by
  have hl := byteAt_len h
  unfold byteAt at h ⊢
  rw [bt_app (by omega), bt_app (by omega)]
  split at h
  · rename_i h1
    rw [if_pos ⟨by rw [List.length_append]; omega, h1.2⟩]; exact h
  · cases h
theorem unitAt_app {l x : List UInt8} {k v : Nat} (h : unitAt l k = some v) : unitAt (l ++ x) k = some v := by
  have hl := unitAt_len h
  unfold unitAt at h ⊢
  rw [bt_app (by omega), bt_app (by omega)]
  split at h
  · rename_i h1
    rw [if_pos h1]
    split at h
    · rename_i a b ha hb
      rw [byteAt_app ha, byteAt_app hb]; exact h
    · cases h
  · cases h
theorem escJ_app {l x : List UInt8} {p : Nat × Nat} (h : escJ l = some p) : escJ (l ++ x) = some p := by
  unfold escJ at h ⊢
  split at h
  · rename_i h1
    have h2 : 1 < l.length := bt_pos_lt (fun hz => by rw [hz] at h1; exact h1 (by decide))
    rw [bt_app h2, if_pos h1]; exact h
  · rename_i h1
    split at h
    · cases h
    · rename_i a ha
      have := unitAt_len ha
      rw [bt_app (by omega), if_neg h1, unitAt_app ha]
      dsimp only
      split at h
      · cases h
      · rename_i h3
        rw [if_neg h3]
        split at h
        · rename_i h4
          rw [if_pos h4]
          split at h
          · cases h
          · rename_i b hb
            rw [unitAt_app hb]; exact h
        · rename_i h4
          rw [if_neg h4]; exact h
theorem oneJ_app {l x : List UInt8} {p : Nat × Nat} (h : oneJ l = some p) : oneJ (l ++ x) = some p := by
  unfold oneJ at h
  split at h
  · cases h
  rename_i hne
  have hl : 0 < l.length := List.length_pos_iff.2 hne
  unfold oneJ
  rw [if_neg (by simp [hne]), bt_app hl]
  split at h
  · rename_i h1
    rw [if_pos h1]; exact escJ_app h
  rename_i h1
  rw [if_neg h1]
  split at h
  · cases h
  rename_i h2
  have hn : next (l ++ x) = next l := by
    rcases next_cases hne with h3 | h3
    · exact absurd (.inr (.inr ⟨by rw [h3], by rw [h3]⟩)) h2
    · have h4 : l = enc ((next l).1 : Int) ++ l.drop (next l).2 := by rw [h3.1, List.take_append_drop]
      have h5 := next_enc ((next l).1 : Int) (l.drop (next l).2 ++ x)
      rw [← List.append_assoc, ← h4] at h5
      have h6 : (enc ((next l).1 : Int)).length = (next l).2 := by
        rw [h3.1, List.length_take]; have := (next_bound l).2.2.1; omega
      rw [h5, h3.2, h6]
  rw [hn, if_neg h2]; exact h
theorem strJ_app {x : List UInt8} : ∀ (m : Nat) (l : List UInt8) (t : List UInt8) (n : Nat), l.length ≤ m → strJ l = some (t, n) → strJ (l ++ x) = some (t, n)
  | m, [], t, n, _, h => by rw [strJ_nil] at h; cases h
  | 0, _ :: _, _, _, hl, _ => by simp at hl
  | m + 1, a :: r, t, n, hl, h => by
    have h0 : a :: r ≠ [] := by simp
    rw [strJ_step h0] at h
    rw [strJ_step (by simp), bt_app (by simp)]
    split at h
    · rename_i h1
      rw [if_pos h1]; exact h
    · rename_i h1
      rw [if_neg h1]
      split at h
      · cases h
      · rename_i q k ho
        have hb := oneJ_bound ho
        rw [oneJ_app ho]
        dsimp only
        rw [List.drop_append_of_le_length hb.2.2.2]
        cases hs : strJ ((a :: r).drop k) with
        | none => rw [hs] at h; cases h
        | some p =>
          obtain ⟨u, j⟩ := p
          rw [hs] at h
          rw [strJ_app m _ u j (by rw [List.length_drop]; simp only [List.length_cons] at *; omega) hs]
          exact h
theorem atL_app {l p x : List UInt8} {k : Nat} (h : atL l p k = true) (hp : p ≠ []) : atL (l ++ x) p k = true := by
  have hl : k + p.length ≤ l.length := (atL_len h).resolve_right hp
  unfold atL at h ⊢
  simp only [Bool.and_eq_true, decide_eq_true_eq] at h ⊢
  refine ⟨by rw [List.length_append]; omega, ?_⟩
  rw [List.drop_append_of_le_length h.1, List.take_append_of_le_length (by rw [List.length_drop]; omega)]
  exact h.2
theorem atL_hd {l p : List UInt8} {k : Nat} {c : UInt8} (h : atL l (c :: p) k = true) : bt l k = c.toNat := by
  unfold atL at h
  simp only [Bool.and_eq_true, decide_eq_true_eq] at h
  have h2 := h.2
  have h3 := bt_drop l k 0
  cases hd : l.drop k with
  | nil => rw [hd] at h2; simp at h2
  | cons b r =>
    rw [hd] at h2 h3
    simp at h2
    rw [bt_c0] at h3
    rw [Nat.add_zero] at h3
    rw [← h3, h2.1]
section
variable {l r : List UInt8} {c : UInt8} (hc : markK c.toNat)
include hc
theorem bt_mark {i : Nat} (hi : i ≤ l.length) (P : Nat → Prop) (hP : ∀ m, markK m → ¬ P m) (h0 : ¬ P 0) : P (bt (l ++ c :: r) i) ↔ P (bt l i) := by
  rcases Nat.lt_or_ge i l.length with h | h
  · rw [bt_app h]
  · obtain rfl : i = l.length := by omega
    have h1 : bt (l ++ c :: r) l.length = c.toNat := by
      have := bt_drop (l ++ c :: r) l.length 0
      rw [List.drop_left, bt_c0, Nat.add_zero] at this
      exact this.symm
    have h2 : bt l l.length = 0 := by simp [bt, List.getD_eq_getElem?_getD]
    rw [h1, h2]
    exact ⟨fun h => absurd h (hP _ hc), fun h => absurd h h0⟩
theorem digE_mark : ∀ (m k : Nat), l.length ≤ k + m → k ≤ l.length → digE (l ++ c :: r) k = digE l k
  | m, k, hm, hk => by
    have hb := bt_mark (l := l) (r := r) hc hk isDg (fun m hm => by unfold markK at hm; unfold isDg; omega) (by decide)
    by_cases hd : isDg (bt l k)
    · have hkl : k < l.length := by
        rcases Nat.lt_or_ge k l.length with h | h
        · exact h
        · rw [show bt l k = 0 by simp [bt, List.getD_eq_getElem?_getD, List.getElem?_eq_none h]] at hd
          exact absurd hd (by decide)
      rw [digE_yes hkl hd, digE_yes (by simp; omega) (hb.2 hd)]
      cases m with
      | zero => omega
      | succ m => exact digE_mark m (k + 1) (by omega) (by omega)
    · rw [digE_no hd, digE_no (fun h => hd (hb.1 h))]
theorem numE_mark {k : Nat} (hk : k < l.length) : numE (l ++ c :: r) k = numE l k := by
  have hD := fun i (hi : i ≤ l.length) => digE_mark (l := l) (r := r) hc l.length i (by omega) hi
  have hB := fun (i a : Nat) (hi : i ≤ l.length) (h1 : a ≠ 0) (h2 : ¬ markK a) => bt_mark (l := l) (r := r) hc hi (fun x => x = a) (fun m hm h => h2 (h ▸ hm)) (fun h => h1 h.symm)
  have h0 : numStart (l ++ c :: r) k = numStart l k := by
    unfold numStart
    simp only [hB k 45 (by omega) (by decide) (by decide)]
  have h0b := numStart_bd l k hk
  unfold numE
  rw [h0, hD _ h0b.2]
  split
  · rfl
  rename_i hd
  have hp := digE_pos hd
  have h1 : numInt (l ++ c :: r) (numStart l k) = numInt l (numStart l k) := by
    unfold numInt
    simp only [hB (numStart l k) 48 h0b.2 (by decide) (by decide), hD _ h0b.2]
  have h1b : numInt l (numStart l k) ≤ l.length := by
    unfold numInt
    split
    · omega
    · exact digE_le l _ h0b.2
  have h2 : numFrac (l ++ c :: r) (numInt l (numStart l k)) = numFrac l (numInt l (numStart l k)) := by
    unfold numFrac
    by_cases h46 : bt l (numInt l (numStart l k)) = 46
    · have := bt_pos_lt (l := l) (k := numInt l (numStart l k)) (by omega)
      simp only [hB _ 46 h1b (by decide) (by decide), hD (numInt l (numStart l k) + 1) (by omega)]
    · rw [if_neg (fun h => h46 ((hB _ 46 h1b (by decide) (by decide)).1 h.1)), if_neg (fun h => h46 h.1)]
  have h2b := (numFrac_bd l _ h1b).2
  have h3 : numExp (l ++ c :: r) (numFrac l (numInt l (numStart l k))) = numExp l (numFrac l (numInt l (numStart l k))) := by
    unfold numExp
    by_cases hE : bt l (numFrac l (numInt l (numStart l k))) = 101 ∨ bt l (numFrac l (numInt l (numStart l k))) = 69
    · have hlt := bt_pos_lt (l := l) (k := numFrac l (numInt l (numStart l k))) (by omega)
      have e1 : expStart (l ++ c :: r) (numFrac l (numInt l (numStart l k)) + 1) = expStart l (numFrac l (numInt l (numStart l k)) + 1) := by
        unfold expStart
        simp only [hB _ 43 hlt (by decide) (by decide), hB _ 45 hlt (by decide) (by decide)]
      have e2 := (expStart_bd l (numFrac l (numInt l (numStart l k)) + 1) hlt).2
      rw [e1, hD _ e2, if_pos hE, if_pos (by rw [hB _ 101 h2b (by decide) (by decide), hB _ 69 h2b (by decide) (by decide)]; exact hE)]
    · rw [if_neg hE, if_neg (by rw [hB _ 101 h2b (by decide) (by decide), hB _ 69 h2b (by decide) (by decide)]; exact hE)]
  rw [h1, h2, h3]
theorem oneT_app {k : Nat} {t : Tok} (hk : k < l.length) (h : oneT l k = some t) : oneT (l ++ c :: r) k = some t := by
  have hbd := oneT_bd hk h
  unfold oneT at h ⊢
  rw [bt_app hk, List.drop_append_of_le_length hk]
  by_cases q1 : markK (bt l k)
  · rw [if_pos q1] at h ⊢; exact h
  rw [if_neg q1] at h ⊢
  by_cases q2 : bt l k = 34
  · rw [if_pos q2] at h ⊢
    cases hs : strJ (l.drop (k + 1)) with
    | none => rw [hs] at h; cases h
    | some p =>
      obtain ⟨u, n⟩ := p
      rw [hs] at h
      rw [strJ_app _ _ u n (Nat.le_refl _) hs]; exact h
  rw [if_neg q2] at h ⊢
  by_cases q3 : atL l tTrue k = true
  · rw [if_pos q3] at h; rw [if_pos (atL_app q3 (by decide))]; exact h
  rw [if_neg q3] at h
  by_cases q4 : atL l tFalse k = true
  · rw [if_pos q4] at h
    have e := atL_hd q4
    rw [if_neg (fun x => by have := atL_hd x; rw [bt_app hk, e] at this; revert this; decide), if_pos (atL_app q4 (by decide))]; exact h
  rw [if_neg q4] at h
  by_cases q5 : atL l tNull k = true
  · rw [if_pos q5] at h
    have e := atL_hd q5
    rw [if_neg (fun x => by have := atL_hd x; rw [bt_app hk, e] at this; revert this; decide), if_neg (fun x => by have := atL_hd x; rw [bt_app hk, e] at this; revert this; decide), if_pos (atL_app q5 (by decide))]; exact h
  rw [if_neg q5] at h
  cases hn : numE l k with
  | none => rw [hn] at h; cases h
  | some e =>
    rw [hn] at h
    have hdg : bt l k = 45 ∨ isDg (bt l k) := by
      unfold numE at hn
      split at hn
      · cases hn
      · rename_i hd
        have hp := digE_pos hd
        unfold numStart at hp
        by_cases h45 : bt l k = 45
        · exact .inl h45
        · rw [if_neg h45] at hp; exact .inr hp.2
    have hno : ∀ (a : UInt8) (p : List UInt8), 58 < a.toNat → ¬ atL (l ++ c :: r) (a :: p) k = true := fun a p ha x => by
      have := atL_hd x
      rw [bt_app hk] at this
      unfold isDg at hdg; omega
    rw [if_neg (show ¬ atL (l ++ c :: r) tTrue k = true from hno 116 _ (by decide)), if_neg (show ¬ atL (l ++ c :: r) tFalse k = true from hno 102 _ (by decide)), if_neg (show ¬ atL (l ++ c :: r) tNull k = true from hno 110 _ (by decide)), numE_mark hc hk, hn]
    simp only [Option.some.injEq] at h ⊢
    have hle := (numE_bd hk hn).2
    rw [List.drop_append_of_le_length (by omega), List.take_append_of_le_length (by rw [List.length_drop]; omega)]
    exact h
theorem toksAt_app : ∀ (m k : Nat) (ts : List Tok), l.length ≤ k + m → k ≤ l.length → toksAt l k = some ts → toksAt (l ++ c :: r) k = (toksAt (l ++ c :: r) l.length).map (ts ++ ·)
  | m, k, ts, hm, hk, h => by
    rcases Nat.lt_or_ge k l.length with h1 | h1
    · cases m with
      | zero => omega
      | succ m =>
        rw [toksAt_step h1] at h
        rw [toksAt_step (by simp; omega), bt_app h1]
        by_cases hb : blankK (bt l k)
        · rw [if_pos hb] at h ⊢
          exact toksAt_app m (k + 1) ts (by omega) (by omega) h
        · rw [if_neg hb] at h ⊢
          cases ho : oneT l k with
          | none => rw [ho] at h; cases h
          | some t =>
            rw [ho] at h
            have hbd := oneT_bd h1 ho
            rw [oneT_app hc h1 ho]
            dsimp only at h ⊢
            cases hr : toksAt l t.to with
            | none => rw [hr] at h; cases h
            | some us =>
              rw [hr] at h
              simp only [Option.map_some, Option.some.injEq] at h
              subst h
              rw [toksAt_app m t.to us (by omega) hbd.2.2.1 hr]
              cases toksAt (l ++ c :: r) l.length <;> simp
    · obtain rfl : k = l.length := by omega
      rw [toksAt_end (Nat.le_refl _)] at h
      cases h
      cases toksAt (l ++ c :: r) l.length <;> simp
/-- The tokens of a text ahead of a bracket. -/
theorem toks_app {ts : List Tok} (h : toks l = some ts) : toks (l ++ c :: r) = (toks (c :: r)).map fun us => ts ++ us.map (shiftT l.length) := by
  unfold toks at h
  have h1 := toksAt_app (l := l) (r := r) hc l.length 0 ts (by omega) (by omega) h
  show toksAt (l ++ c :: r) 0 = _
  rw [h1, toksAt_zero _ _ (by simp), List.drop_left]
  cases toks (c :: r) <;> simp
end
end Go.Proofs.Ytdfnlcigbmiafaa

/- Plain: a value between brackets (chapter 37). -/
namespace Go.Proofs.Ytdfnlcigbmiafaa
set_option linter.unusedVariables false
set_option linter.unusedSimpArgs false
theorem val_up {ts : List Tok} : ∀ (f f' k : Nat) (n : Node) (k2 : Nat), f ≤ f' → valI f ts k = some (n, k2) → valI f' ts k = some (n, k2)
  | 0, f', k, n, k2, _, h => by cases h
  | f + 1, 0, k, n, k2, hf, h => by omega
  | f + 1, f' + 1, k, n, k2, hf, h => by
    obtain ⟨t, ht, _⟩ := valI_head h
    rw [valI_at ht] at h
    rw [valI_at ht]
    by_cases q1 : t.kind = 34 ∨ t.kind = 48 ∨ t.kind = 97
    · rw [if_pos q1] at h ⊢; exact h
    rw [if_neg q1] at h ⊢
    by_cases q2 : t.kind ≠ 91 ∧ t.kind ≠ 123
    · rw [if_pos q2] at h; cases h
    rw [if_neg q2] at h ⊢
    obtain ⟨E, hE⟩ : ∃ E, (if t.kind = 123 then 125 else 93) = E := ⟨_, rfl⟩
    rw [hE] at h ⊢
    by_cases q3 : isK ts (k + 1) E = true
    · rw [if_pos q3] at h ⊢; exact h
    · rw [if_neg q3] at h ⊢
      cases he : elems (fun j => valI f ts j) ts (decide (t.kind = 123)) E ts.length (k + 1) [] [] with
      | none => rw [he] at h; cases h
      | some out =>
        obtain ⟨ks, ns, k3⟩ := out
        rw [he] at h
        have h2 := elems_ext (val' := fun j => valI f' ts j) (pre := []) (post := []) (fun k n k2 hv => ⟨(valI_bd _ _ _ _ _ hv).1, (valI_bd _ _ _ _ _ hv).2, by have := valI_bd _ _ _ _ _ hv; omega, by simpa using val_up f f' k n k2 (by omega) hv⟩) _ _ _ _ _ _ _ he
        simp only [List.nil_append, List.append_nil, List.length_nil, Nat.zero_add] at h2
        rw [h2]
        exact h
/-- What Parse says of a value in a row of one. -/
theorem parse_wrap {b : List UInt8} {ts : List Tok} {n : Node} (ht : toks b = some ts) (hv : val ts = some (n, ts.length)) :
    parseJ (91 :: b ++ [93]) = if 32 < deepN n + 1 then .error 8 else .ok (.mk 91 [] [] [n]) := by
  have h1 : toks (b ++ [93]) = some (ts ++ [⟨93, [], b.length, b.length + 1⟩]) := by
    rw [toks_app (by decide) ht, toks_mark (by decide)]; rfl
  have h2 : toks (91 :: b ++ [93]) = some ((⟨91, [], 0, 1⟩ : Tok) :: (ts ++ [(⟨93, [], b.length, b.length + 1⟩ : Tok)]).map (shiftT 1)) := by
    rw [List.cons_append, toks_mark (by decide), h1]; rfl
  obtain ⟨us, hus⟩ : ∃ us, us = ts.map (shiftT 1) := ⟨_, rfl⟩
  obtain ⟨z, hz⟩ : ∃ z : Tok, z = ⟨93, [], 1 + b.length, 1 + (b.length + 1)⟩ := ⟨_, rfl⟩
  have hlen : us.length = ts.length := by rw [hus, List.length_map]
  have h3 : toks (91 :: b ++ [93]) = some ([⟨91, [], 0, 1⟩] ++ us ++ [z]) := by
    rw [h2, List.map_append, ← hus, hz]; rfl
  have hvu : valI (ts.length + 1) us 0 = some (n, us.length) := by
    rw [hus, val_shift (shiftT 1) (fun t => ⟨rfl, rfl⟩), List.length_map]; exact hv
  have hx := val_ext (pre := [⟨91, [], 0, 1⟩]) (post := [z]) _ _ _ _ hvu
  obtain ⟨t0, ht0, hk0⟩ := valI_head hvu
  have hpos : 0 < us.length := (List.getElem?_eq_some_iff.1 ht0).1
  obtain ⟨W, hW⟩ : ∃ W, [⟨91, [], 0, 1⟩] ++ us ++ [z] = W := ⟨_, rfl⟩
  rw [hW] at hx h3
  have hWl : W.length = us.length + 2 := by rw [← hW]; simp
  have hW0 : W[0]? = some ⟨91, [], 0, 1⟩ := by rw [← hW]; rfl
  have hWz : isK W (1 + us.length) 93 = true := by
    unfold isK; rw [← hW, List.getElem?_append_right (by simp; omega)]; simp [hz, Nat.add_comm]
  have hW1 : ¬ isK W 1 93 = true := by
    intro h
    rw [← hW] at h
    have := isK_ext (pre := [⟨91, [], 0, 1⟩]) (post := [z]) (c := 93) hpos
    simp only [List.length_singleton, Nat.add_zero] at this
    rw [this] at h
    unfold isK at h
    rw [ht0] at h
    simp only [decide_eq_true_eq] at h
    omega
  have hvW : val W = some (.mk 91 [] [] [n], W.length) := by
    unfold val
    rw [valI_at hW0, if_neg (by decide), if_neg (by decide), if_neg (show ¬ isK W (0 + 1) (if (⟨91, [], 0, 1⟩ : Tok).kind = 123 then 125 else 93) = true from hW1)]
    have he : elems (fun j => valI W.length W j) W (decide ((⟨91, [], 0, 1⟩ : Tok).kind = 123)) (if (⟨91, [], 0, 1⟩ : Tok).kind = 123 then 125 else 93) W.length (0 + 1) [] [] = some ([], [n], W.length) := by
      obtain ⟨g, hg⟩ : ∃ g, W.length = g + 1 := ⟨W.length - 1, by omega⟩
      show elems (fun j => valI W.length W j) W false 93 W.length 1 [] [] = _
      rw [show elems (fun j => valI W.length W j) W false 93 W.length 1 [] [] = elems (fun j => valI W.length W j) W false 93 (g + 1) 1 [] [] from by rw [← hg]]
      unfold elems
      rw [if_neg (by simp)]
      have hxx : valI W.length W 1 = some (n, 1 + us.length) := val_up (ts.length + 1) _ _ _ _ (by omega) (by simpa using hx)
      rw [if_neg (by decide), hxx]
      dsimp only
      rw [if_pos hWz]
      simp; omega
    rw [he]
  unfold parseJ
  rw [h3]
  dsimp only
  rw [hvW]
  dsimp only
  rw [if_pos rfl]
  simp [deepN, deepL]
/-- What Parse says of a text, and of it in a row of one. -/
theorem parse_wraps (b : List UInt8) : parseJ b = .error 7 ∨ (parseJ b = .error 8 ∧ parseJ (91 :: b ++ [93]) = .error 8) ∨
    ∃ n, parseJ b = .ok n ∧ ((32 ≤ deepN n ∧ parseJ (91 :: b ++ [93]) = .error 8) ∨ (deepN n < 32 ∧ parseJ (91 :: b ++ [93]) = .ok (.mk 91 [] [] [n]))) := by
  cases ht : toks b with
  | none => left; unfold parseJ; rw [ht]
  | some ts =>
    cases hv : val ts with
    | none => left; unfold parseJ; rw [ht]; dsimp only; rw [hv]
    | some p =>
      obtain ⟨n, k⟩ := p
      by_cases hk : k = ts.length
      · subst hk
        have h1 := parse_wrap ht hv
        have h2 : parseJ b = if 32 < deepN n then .error 8 else .ok n := by
          unfold parseJ; rw [ht]; dsimp only; rw [hv]; dsimp only; rw [if_pos rfl]
        right
        by_cases hd : 32 < deepN n
        · left; exact ⟨by rw [h2, if_pos hd], by rw [h1, if_pos (by omega)]⟩
        · right
          refine ⟨n, by rw [h2, if_neg hd], ?_⟩
          by_cases he : 32 < deepN n + 1
          · left; exact ⟨by omega, by rw [h1, if_pos he]⟩
          · right; exact ⟨by omega, by rw [h1, if_neg he]⟩
      · left; unfold parseJ; rw [ht]; dsimp only; rw [hv]; dsimp only; rw [if_neg hk]
end Go.Proofs.Ytdfnlcigbmiafaa

/- Plain: a hook's error, and its text (chapter 37). -/
namespace Go.Proofs.Ytdfnlcigbmiafaa
open Go.RowKit
set_option linter.unusedVariables false
set_option linter.unusedSimpArgs false
/-- What Parse says of a text: 0: it is a value. -/
def errJ (l : List UInt8) : Int := match parseJ l with | .error c => c | .ok _ => 0
theorem errJ_err {l : List UInt8} {c : Nat} (h : parseJ l = .error c) : errJ l = c := by unfold errJ; rw [h]
theorem errJ_ok {l : List UInt8} {n : Node} (h : parseJ l = .ok n) : errJ l = 0 := by unfold errJ; rw [h]
theorem parse_size {l : List UInt8} {n : Node} (h : parseJ l = .ok n) : sizeN n ≤ l.length := by
  unfold parseJ at h
  split at h
  · cases h
  · rename_i ts htk
    have hlen := toks_len htk
    split at h
    · cases h
    · rename_i m k hv
      split at h
      · split at h
        · cases h
        · rename_i hk _
          cases h
          have := valI_size _ _ _ _ _ hv
          omega
      · cases h
/-- What Parse hands back. -/
theorem parse_two (l : List UInt8) : ∃ n : Node, sizeN n ≤ l.length + 1 ∧ (errJ l = 0 → parseJ l = .ok n) ∧
    ∀ (B : Nat) (e : Ending) (W : World), ParR (parseJ l) B e W → ∃ a b d f : Value, e = .returned (.tuple #[.agg #[a, b, d, f], .int .i64 (errJ l)]) ∧ NodeW W (fun g => B ≤ g) n (.agg #[a, b, d, f]) := by
  cases hp : parseJ l with
  | error c =>
    refine ⟨.mk 0 [] [] [], by simp [sizeN, sizeL], fun h0 => ?_, fun B e W h => ⟨_, _, _, _, ?_, node_leaf _ _ 0 []⟩⟩
    · rw [errJ_err hp] at h0
      exfalso
      have hc : c = 0 := by omega
      subst hc
      unfold parseJ at hp
      split at hp
      · cases hp
      · split at hp
        · cases hp
        · split at hp
          · split at hp <;> cases hp
          · cases hp
    · rw [errJ_err hp]; exact h
  | ok n =>
    refine ⟨n, by have := parse_size hp; omega, fun _ => rfl, fun B e W h => ?_⟩
    rw [errJ_ok hp]; exact h
/-- Why a hook may not be: 0: it may. -/
def hookE (r b : List UInt8) : Int := if clean r ≠ r ∨ errJ b = 7 then 7 else if errJ (91 :: b ++ [93]) = 0 then 0 else 8
theorem hook_cases (r b : List UInt8) (n : Node) (hn : errJ b = 0 → parseJ b = .ok n) :
    (clean r ≠ r ∧ hookE r b = 7) ∨ (clean r = r ∧ errJ b = 7 ∧ hookE r b = 7) ∨ (clean r = r ∧ errJ b = 8 ∧ errJ (91 :: b ++ [93]) = 8 ∧ hookE r b = 8) ∨
    (clean r = r ∧ errJ b = 0 ∧ 32 ≤ deepN n ∧ errJ (91 :: b ++ [93]) = 8 ∧ hookE r b = 8) ∨ (clean r = r ∧ errJ b = 0 ∧ deepN n < 32 ∧ errJ (91 :: b ++ [93]) = 0 ∧ hookE r b = 0) := by
  by_cases hc : clean r = r
  · right
    rcases parse_wraps b with h | ⟨h, h2⟩ | ⟨m, h, h2⟩
    · left; have := errJ_err h; exact ⟨hc, this, by unfold hookE; rw [if_pos (.inr this)]⟩
    · right; left
      have e1 := errJ_err h; have e2 := errJ_err h2
      exact ⟨hc, e1, e2, by unfold hookE; rw [if_neg (fun x => by rcases x with x | x; exact x hc; rw [e1] at x; revert x; decide), if_neg (by rw [e2]; decide)]⟩
    · have e1 := errJ_ok h
      have e3 := hn e1
      rw [h] at e3
      cases e3
      right; right
      rcases h2 with ⟨h3, h4⟩ | ⟨h3, h4⟩
      · left
        have e2 := errJ_err h4
        exact ⟨hc, e1, h3, e2, by unfold hookE; rw [if_neg (fun x => by rcases x with x | x; exact x hc; rw [e1] at x; revert x; decide), if_neg (by rw [e2]; decide)]⟩
      · right
        have e2 := errJ_ok h4
        exact ⟨hc, e1, h3, e2, by unfold hookE; rw [if_neg (fun x => by rcases x with x | x; exact x hc; rw [e1] at x; revert x; decide), if_pos e2]⟩
  · left
    exact ⟨hc, by unfold hookE; rw [if_pos (.inl hc)]⟩
def wordB (f : Bool) : ByteArray := if f then ⟨#[102, 105, 114, 105, 110, 103]⟩ else ⟨#[114, 101, 115, 111, 108, 118, 101, 100]⟩
def wordL (f : Bool) : List UInt8 := if f then [102, 105, 114, 105, 110, 103] else [114, 101, 115, 111, 108, 118, 101, 100]
def opensL : List UInt8 := [123, 34, 114, 101, 99, 101, 105, 118, 101, 114, 34, 58, 34]
def statL : List UInt8 := [34, 44, 34, 115, 116, 97, 116, 117, 115, 34, 58, 34]
def bodyL : List UInt8 := [34, 44, 34, 98, 111, 100, 121, 34, 58]
/-- A hook, written. -/
def hookL (f : Bool) (r b : List UInt8) : List UInt8 := opensL ++ writeJ r ++ statL ++ wordL f ++ bodyL ++ b ++ [125]
def hookT (f : Bool) (r b : List UInt8) : ByteArray := if hookE r b = 0 then strOf (hookL f r b) else ⟨#[]⟩
theorem hookT_ok {f : Bool} {r b : List UInt8} (h : hookE r b = 0) : hookT f r b = strOf (hookL f r b) := if_pos h
theorem hookT_no {f : Bool} {r b : List UInt8} (h : hookE r b ≠ 0) : hookT f r b = ⟨#[]⟩ := if_neg h
/-- The text, put together piece by piece. -/
theorem hook_parts (f : Bool) (r b : ByteArray) (hr : r.size ≤ 1000) (hb : b.size ≤ 1000) : ∃ A1 A2 A3 A4 A5 A6 : ByteArray,
    (({ data := #[123, 34, 114, 101, 99, 101, 105, 118, 101, 114, 34, 58, 34] } : ByteArray) ++ strOf (writeJ r.data.toList) = A1 ∧ A1 ++ ({ data := #[34, 44, 34, 115, 116, 97, 116, 117, 115, 34, 58, 34] } : ByteArray) = A2 ∧
    A2 ++ wordB f = A3 ∧ A3 ++ ({ data := #[34, 44, 34, 98, 111, 100, 121, 34, 58] } : ByteArray) = A4 ∧ A4 ++ b = A5 ∧ A5 ++ ({ data := #[125] } : ByteArray) = A6) ∧
    A1.size ≤ 8000 ∧ A2.size ≤ 8000 ∧ A3.size ≤ 8000 ∧ A4.size ≤ 8000 ∧ A5.size ≤ 10000 ∧ A6.size ≤ 10000 ∧ A6 = strOf (hookL f r.data.toList b.data.toList) := by
  have hap : ∀ (a b : List UInt8), strOf a ++ strOf b = strOf (a ++ b) := fun a b => by simp [strOf, ByteArray.mk_append_mk]
  have hsz : ∀ l, (strOf l).size = l.length := strOf_size
  have hw := write_length r.data.toList
  have hlr := sz_len r
  have hlb := sz_len b
  have hwd : (wordL f).length ≤ 8 := by cases f <;> decide
  have hbb : strOf b.data.toList = b := strOf_data b
  refine ⟨strOf (opensL ++ writeJ r.data.toList), strOf (opensL ++ writeJ r.data.toList ++ statL), strOf (opensL ++ writeJ r.data.toList ++ statL ++ wordL f), strOf (opensL ++ writeJ r.data.toList ++ statL ++ wordL f ++ bodyL), strOf (opensL ++ writeJ r.data.toList ++ statL ++ wordL f ++ bodyL ++ b.data.toList), strOf (hookL f r.data.toList b.data.toList), ⟨?_, ?_, ?_, ?_, ?_, ?_⟩, ?_, ?_, ?_, ?_, ?_, ?_, rfl⟩
  · exact hap opensL _
  · exact hap _ statL
  · have : wordB f = strOf (wordL f) := by cases f <;> rfl
    rw [this]; exact hap _ _
  · exact hap _ bodyL
  · have h := hap (opensL ++ writeJ r.data.toList ++ statL ++ wordL f ++ bodyL) b.data.toList
    rw [hbb] at h
    exact h
  · exact hap _ [125]
  all_goals
    rw [hsz]
    simp only [hookL, List.length_append, show opensL.length = 13 from rfl, show statL.length = 12 from rfl, show bodyL.length = 9 from rfl, List.length_singleton]
    omega
end Go.Proofs.Ytdfnlcigbmiafaa

/- Walks: a hook's check and its text: the checks (chapter 37). -/
namespace Go.Proofs.Ytdfnlcigbmiafaa
open Go.RowKit
set_option linter.unusedVariables false
set_option linter.unusedSimpArgs false
theorem ba_ext {a b : ByteArray} (h : a.data.toList = b.data.toList) : a = b := by
  cases a; cases b; simp at h; simp [h]
theorem below_drewT {w w' : World} (h : Below w.drew.heap.size w.drew w') : Below w.heap.size w w' := ⟨h.os, h.tape, h.output, h.size, h.block⟩
theorem NodeW.belowT {w w' : World} {B : Nat} {n : Node} {v : Value} (h : NodeW w (fun g => B ≤ g) n v) (hb : Below w.heap.size w w') : NodeW w' (fun g => B ≤ g) n v :=
  NodeW.mono (fun g hg hl => ⟨hg, Nat.lt_of_lt_of_le hl hb.size, hb.block g hl⟩) n v h
set_option maxRecDepth 100000 in
set_option maxHeartbeats 8000000 in
theorem wcheck_any (f : Bool) (r b : ByteArray) (w : World) (hr : r.size ≤ 1000) (hb : b.size ≤ 1000) :
    Calls Try.prog 10 #[.agg #[.bool f, .string r, .string b]] w fun e w' => e = .returned (.int .i64 (hookE r.data.toList b.data.toList)) ∧ Below w.heap.size w w' := by
  have hlb := sz_len b
  obtain ⟨n, hsz, hok, hpar⟩ := parse_two b.data.toList
  have P1 : Hid (∀ w, Calls Try.prog 21 #[.string b] w fun e w' => (∃ va vb vc vd : Value, e = .returned (.tuple #[.agg #[va, vb, vc, vd], .int .i64 (errJ b.data.toList)]) ∧ NodeW w' (fun g => w.heap.size ≤ g) n (.agg #[va, vb, vc, vd])) ∧ Below w.heap.size w w') :=
    fun w => (jparse_any b w (by omega)).mono fun e w' h => ⟨hpar _ _ _ h.1, h.2⟩
  have HC := Lib.hid (fun w => clean_any r w (by omega))
  have hap : ∀ (a b : List UInt8), strOf a ++ strOf b = strOf (a ++ b) := fun a b => by simp [strOf, ByteArray.mk_append_mk]
  have t1 : ({ data := #[91] } : ByteArray) ++ b = strOf (91 :: b.data.toList) := by
    have h := hap [91] b.data.toList
    rw [strOf_data] at h; exact h
  have t2 : strOf (91 :: b.data.toList) ++ ({ data := #[93] } : ByteArray) = strOf (91 :: b.data.toList ++ [93]) := hap _ [93]
  have z1 : (strOf (91 :: b.data.toList)).size ≤ 1001 := by rw [strOf_size, List.length_cons]; omega
  have z2 : (strOf (91 :: b.data.toList ++ [93])).size ≤ 1002 := by rw [strOf_size, List.length_append, List.length_cons, List.length_singleton]; omega
  obtain ⟨n2, _, _, hpar2⟩ := parse_two (91 :: b.data.toList ++ [93])
  have P2 : Hid (∀ w, Calls Try.prog 21 #[.string (strOf (91 :: b.data.toList ++ [93]))] w fun e w' => (∃ va vb vc vd : Value, e = .returned (.tuple #[.agg #[va, vb, vc, vd], .int .i64 (errJ (91 :: b.data.toList ++ [93]))]) ∧ NodeW w' (fun g => w.heap.size ≤ g) n2 (.agg #[va, vb, vc, vd])) ∧ Below w.heap.size w w') :=
    fun w => (jparse_any (strOf (91 :: b.data.toList ++ [93])) w (by omega)).mono fun e w' h => by rw [strOf_list] at h; exact ⟨hpar2 _ _ _ h.1, h.2⟩
  clear hpar2 hap
  have c91 : ({ data := #[91] } : ByteArray).size = 1 := rfl
  have c93 : ({ data := #[93] } : ByteArray).size = 1 := rfl
  have hcs := hook_cases r.data.toList b.data.toList n hok
  have hcX : strOf (clean r.data.toList) = r ↔ clean r.data.toList = r.data.toList := ⟨fun h => by have := congrArg (fun x : ByteArray => x.data.toList) h; simpa [strOf] using this, fun h => by rw [h, strOf_data]⟩
  generalize strOf (clean r.data.toList) = X at *
  obtain ⟨E, hE⟩ : ∃ E, hookE r.data.toList b.data.toList = E := ⟨_, rfl⟩
  rw [hE] at hcs ⊢
  clear hE
  have hbl2 : sizeN n ≤ 1001 := by omega
  clear hpar hok hlb hsz
  generalize errJ b.data.toList = c at *
  generalize strOf (91 :: b.data.toList ++ [93]) = Y2 at *
  generalize strOf (91 :: b.data.toList) = Y1 at *
  generalize errJ (91 :: b.data.toList ++ [93]) = c2 at *
  have HX1 := Lib.hid (Blk.new w 23 #[.bool f, .string r, .string b])
  have HB1 := Lib.hid ((Below.refl w.heap.size w).alloc (Nat.le_refl _) (.cells #[.bool f, .string r, .string b] 23))
  go_enter Try.func10, Try.ntmps10
  go_upto_region 1 with fail
  generalize hW : w.alloc (.cells #[.bool f, .string r, .string b] 23) = W1 at *
  clear hW
  have x2 := HX1.out.cell 2
  go_wp2_with fail
  refine (P1.out _).mono ?_
  rintro e w3 ⟨⟨va, vb, vc, vd, rfl, hn3⟩, b3⟩
  obtain ⟨v1, v2, v3, v4, v5, v6, v7, v8, rfl, rfl, rfl, rfl⟩ := node_shape hn3
  have HX4 := Lib.hid ((HX1.out.below b3 HX1.out.lt).alloc (.cells #[.int .u8 v1, .string v2, .slice v3 v4 v5, .slice v6 v7 v8] 47))
  have HB4 := Lib.hid ((HB1.out.trans (b3.mono HB1.out.size)).alloc (HB1.out.trans (b3.mono HB1.out.size)).size (.cells #[.int .u8 v1, .string v2, .slice v3 v4 v5, .slice v6 v7 v8] 47))
  clear hn3 b3 HX1 HB1 x2 P1
  go_upto_region 2 with fail
  generalize hW : w3.alloc (.cells #[.int .u8 v1, .string v2, .slice v3 v4 v5, .slice v6 v7 v8] 47) = W4 at *
  clear hW
  have K1 : W4.drew.cell? ⟨w.heap.size, 0, none⟩ = some (.bool f) ∧ W4.drew.cell? ⟨w.heap.size, 1, none⟩ = some (.string r) ∧ W4.drew.cell? ⟨w.heap.size, 2, none⟩ = some (.string b) := ⟨HX4.out.cell 0, HX4.out.cell 1, HX4.out.cell 2⟩
  have HK2 : Hid (∀ w', Below W4.drew.heap.size W4.drew w' → w'.cell? ⟨w.heap.size, 0, none⟩ = some (.bool f) ∧ w'.cell? ⟨w.heap.size, 1, none⟩ = some (.string r) ∧ w'.cell? ⟨w.heap.size, 2, none⟩ = some (.string b)) := by
    intro w' h
    have h3 := HX4.out.below (below_drewT h) HX4.out.lt
    exact ⟨h3.cell 0, h3.cell 1, h3.cell 2⟩
  rcases hcs with ⟨h1, hE⟩ | hcs
  · have q : (X.toList == r.toList) = false := by rw [beq_eq_false_iff_ne, ByteArray.toList_eq, ByteArray.toList_eq]; exact fun h => h1 (hcX.1 (ba_ext h))
    have HE := Lib.hid hE
    clear hE h1 hcX
    refine wp_region_held_drew (S := (fun w' => w'.cell? ⟨w.heap.size, 0, none⟩ = some (.bool f) ∧ w'.cell? ⟨w.heap.size, 1, none⟩ = some (.string r) ∧ w'.cell? ⟨w.heap.size, 2, none⟩ = some (.string b))) (by kernel_rfl) (by with_reducible exact K1) (fun hHeld => ?_)
    refine wpAnyH_take (i := 0) (v := ?_) rfl (by kernel_rfl) (by kernel_rfl) (by kernel_rfl) (fun _ _ _ h => h) (Or.inl ⟨by rfl, ?_⟩) (by assumption) ?_
    rotate_left
    · intro w hSw
      go_simp
      try rfl
    simp only [Act.put, List.setIfInBounds_toArray, List.set_cons_zero, List.set_cons_succ, List.getElem_toArray, List.getElem_cons_succ, List.getElem_cons_zero]
    refine wpAnyH_take (i := 1) (v := ?_) rfl (by kernel_rfl) (by kernel_rfl) (by kernel_rfl) (fun _ _ _ h => h) (Or.inl ⟨by rfl, ?_⟩) (by assumption) ?_
    rotate_left
    · intro w hSw
      go_simp
      try rfl
    simp only [Act.put, List.setIfInBounds_toArray, List.set_cons_zero, List.set_cons_succ, List.getElem_toArray, List.getElem_cons_succ, List.getElem_cons_zero]
    refine wpAnyH_take (i := 3) (v := ?_) rfl (by kernel_rfl) (by kernel_rfl) (by kernel_rfl) (fun _ _ _ h => h) (Or.inl ⟨by rfl, ?_⟩) (by assumption) ?_
    rotate_left
    · intro w hSw
      go_simp
      try rfl
    simp only [Act.put, List.setIfInBounds_toArray, List.set_cons_zero, List.set_cons_succ, List.getElem_toArray, List.getElem_cons_succ, List.getElem_cons_zero]
    refine wpAnyH_take (i := 4) (v := ?_) rfl (by kernel_rfl) (by kernel_rfl) (by kernel_rfl) (fun _ _ _ h => h) (Or.inl ⟨by rfl, ?_⟩) (by assumption) ?_
    rotate_left
    · intro w hSw
      go_simp
      try rfl
    simp only [Act.put, List.setIfInBounds_toArray, List.set_cons_zero, List.set_cons_succ, List.getElem_toArray, List.getElem_cons_succ, List.getElem_cons_zero]
    refine wpAnyH_ready (rs := [2]) (by kernel_rfl) (by simp) ?_
    refine AllReadyH.cons rfl (fun K9 hK => ?_) AllReadyH.nil
    go_simp
    go_at_call 22; refine (HC.out _).mono ?_; rintro e w6 ⟨rfl, k6⟩
    try go_wp2_with fail
    refine hK.out _ _ (by exact HK2.out _ k6) (fun hHeld => ?_)
    clear hK K9
    try simp only [Act.put, List.setIfInBounds_toArray, List.set_cons_zero, List.set_cons_succ, List.getElem_toArray, List.getElem_cons_succ, List.getElem_cons_zero]
    refine wpAnyH_take (i := 5) (v := ?_) rfl (by kernel_rfl) (by kernel_rfl) (by kernel_rfl) (fun _ _ _ h => h) (Or.inl ⟨by rfl, ?_⟩) (by assumption) ?_
    rotate_left
    · intro w hSw
      go_simp
      try rfl
    simp only [Act.put, List.setIfInBounds_toArray, List.set_cons_zero, List.set_cons_succ, List.getElem_toArray, List.getElem_cons_succ, List.getElem_cons_zero]
    refine wpAnyH_take (i := 6) (v := ?_) rfl (by kernel_rfl) (by kernel_rfl) (by kernel_rfl) (fun _ _ _ h => h) (Or.inl ⟨by rfl, ?_⟩) (by assumption) ?_
    rotate_left
    · intro w hSw
      go_simp
      try rfl
    simp only [Act.put, List.setIfInBounds_toArray, List.set_cons_zero, List.set_cons_succ, List.getElem_toArray, List.getElem_cons_succ, List.getElem_cons_zero]
    refine wpAnyH_take (i := 7) (v := undef) rfl (by kernel_rfl) (by kernel_rfl) (by kernel_rfl) (fun _ _ _ h => h) (Or.inr ⟨by rfl, rfl⟩) (by assumption) ?_
    simp only [Act.put, List.setIfInBounds_toArray, List.set_cons_zero, List.set_cons_succ, List.getElem_toArray, List.getElem_cons_succ, List.getElem_cons_zero]
    refine wpAnyH_take (i := 8) (v := undef) rfl (by kernel_rfl) (by kernel_rfl) (by kernel_rfl) (fun _ _ _ h => h) (Or.inr ⟨by rfl, rfl⟩) (by assumption) ?_
    simp only [Act.put, List.setIfInBounds_toArray, List.set_cons_zero, List.set_cons_succ, List.getElem_toArray, List.getElem_cons_succ, List.getElem_cons_zero]
    refine wpAnyH_take (i := 9) (v := ?_) rfl (by kernel_rfl) (by kernel_rfl) (by kernel_rfl) (fun _ _ _ h => h) (Or.inl ⟨by rfl, ?_⟩) (by assumption) ?_
    rotate_left
    · intro w hSw
      go_simp
      try rfl
    simp only [Act.put, List.setIfInBounds_toArray, List.set_cons_zero, List.set_cons_succ, List.getElem_toArray, List.getElem_cons_succ, List.getElem_cons_zero]
    refine wpAnyH_done (by kernel_rfl) ?_ _
    clear hHeld
    go_wp2_with fail
    go_ret
    exact ⟨by rw [HE.out]; rfl, HB4.out.trans ((below_drewT k6).mono HB4.out.size)⟩
  · have hXr : X = r := hcX.2 (by rcases hcs with h | h | h | h <;> exact h.1)
    have q : (X.toList == r.toList) = true := by rw [hXr]; simp
    clear hcX hXr
    have hcs2 : (c = 7 ∧ E = 7) ∨ ((c = 8 ∨ c = 0) ∧ ((c2 = 8 ∧ E = 8) ∨ (c2 = 0 ∧ E = 0))) := by
      rcases hcs with ⟨_, h1, h2⟩ | ⟨_, h1, h2, h3⟩ | ⟨_, h1, h2, h3, h4⟩ | ⟨_, h1, h2, h3, h4⟩
      · exact .inl ⟨h1, h2⟩
      · exact .inr ⟨.inl h1, .inl ⟨h2, h3⟩⟩
      · exact .inr ⟨.inr h1, .inl ⟨h3, h4⟩⟩
      · exact .inr ⟨.inr h1, .inr ⟨h3, h4⟩⟩
    clear hcs
    rcases hcs2 with ⟨rfl, hE⟩ | ⟨hc, hcs2⟩
    · have HE := Lib.hid hE
      clear hE
      go_region_held3 (fun w' => w'.cell? ⟨w.heap.size, 0, none⟩ = some (.bool f) ∧ w'.cell? ⟨w.heap.size, 1, none⟩ = some (.string r) ∧ w'.cell? ⟨w.heap.size, 2, none⟩ = some (.string b)) (first | (with_reducible exact K1) | (exact HK2.out _ k6)) ((go_at_call 22; refine (HC.out _).mono ?_; rintro e w6 ⟨rfl, k6⟩))
      go_wp2_with fail
      go_ret
      exact ⟨by rw [HE.out]; rfl, HB4.out.trans ((below_drewT k6).mono HB4.out.size)⟩
    · have hc7 : (c == 7) = false := by rcases hc with rfl | rfl <;> rfl
      clear hc
      go_region_held3 (fun w' => w'.cell? ⟨w.heap.size, 0, none⟩ = some (.bool f) ∧ w'.cell? ⟨w.heap.size, 1, none⟩ = some (.string r) ∧ w'.cell? ⟨w.heap.size, 2, none⟩ = some (.string b)) (first | (with_reducible exact K1) | (exact HK2.out _ k6)) ((go_at_call 22; refine (HC.out _).mono ?_; rintro e w6 ⟨rfl, k6⟩))
      have b6 := HB4.out.trans ((below_drewT k6).mono HB4.out.size)
      have hk6 := HK2.out _ k6
      have x2 := hk6.2.2
      have HB6 := Lib.hid b6
      clear b6 hk6 HK2 K1 HB4 k6 HX4
      go_wp2_with fail
      refine (P2.out _).mono ?_
      rintro e w7 ⟨⟨ua, ub, uc, ud, rfl, hn7⟩, b7⟩
      obtain ⟨u1, u2, u3, u4, u5, u6, u7, u8, rfl, rfl, rfl, rfl⟩ := node_shape hn7
      have HB7 := Lib.hid ((HB6.out.trans (b7.mono HB6.out.size)).alloc (HB6.out.trans (b7.mono HB6.out.size)).size (.cells #[.int .u8 u1, .string u2, .slice u3 u4 u5, .slice u6 u7 u8] 47))
      clear hn7 b7 HB6
      rcases hcs2 with ⟨rfl, hE⟩ | ⟨rfl, hE⟩
      all_goals
        have HE := Lib.hid hE
        clear hE
        go_wp2_with fail
        go_ret
        exact ⟨by rw [HE.out]; rfl, HB7.out⟩
set_option maxRecDepth 100000 in
set_option maxHeartbeats 8000000 in
theorem hcheck_any (f : Bool) (r b : ByteArray) (w : World) (hr : r.size ≤ 1000) (hb : b.size ≤ 1000) :
    Calls Try.prog 19 #[.agg #[.bool f, .string r, .string b]] w fun e w' => e = .returned (.int .i64 (hookE r.data.toList b.data.toList)) ∧ Below w.heap.size w w' := by
  have hlb := sz_len b
  obtain ⟨n, hsz, hok, hpar⟩ := parse_two b.data.toList
  have P1 : Hid (∀ w, Calls Try.prog 12 #[.string b] w fun e w' => (∃ va vb vc vd : Value, e = .returned (.tuple #[.agg #[va, vb, vc, vd], .int .i64 (errJ b.data.toList)]) ∧ NodeW w' (fun g => w.heap.size ≤ g) n (.agg #[va, vb, vc, vd])) ∧ Below w.heap.size w w') :=
    fun w => (rparse_any b w (by omega)).mono fun e w' h => ⟨hpar _ _ _ h.1, h.2⟩
  have HC := Lib.hid (fun w => rclean_any r w (by omega))
  have hcs := hook_cases r.data.toList b.data.toList n hok
  have hcX : strOf (clean r.data.toList) = r ↔ clean r.data.toList = r.data.toList := ⟨fun h => by have := congrArg (fun x : ByteArray => x.data.toList) h; simpa [strOf] using this, fun h => by rw [h, strOf_data]⟩
  generalize strOf (clean r.data.toList) = X at *
  obtain ⟨E, hE⟩ : ∃ E, hookE r.data.toList b.data.toList = E := ⟨_, rfl⟩
  rw [hE] at hcs ⊢
  clear hE
  have hbl2 : sizeN n ≤ 1001 := by omega
  clear hpar hok hlb hsz
  generalize errJ b.data.toList = c at *
  have HX1 := Lib.hid (Blk.new w 23 #[.bool f, .string r, .string b])
  have HB1 := Lib.hid ((Below.refl w.heap.size w).alloc (Nat.le_refl _) (.cells #[.bool f, .string r, .string b] 23))
  go_enter Try.func19, Try.ntmps19
  go_upto_region 1 with fail
  generalize hW : w.alloc (.cells #[.bool f, .string r, .string b] 23) = W1 at *
  clear hW
  have x2 := HX1.out.cell 2
  go_wp2_with fail
  refine (P1.out _).mono ?_
  rintro e w3 ⟨⟨va, vb, vc, vd, rfl, hn3⟩, b3⟩
  obtain ⟨v1, v2, v3, v4, v5, v6, v7, v8, rfl, rfl, rfl, rfl⟩ := node_shape hn3
  have HX4 := Lib.hid ((HX1.out.below b3 HX1.out.lt).alloc (.cells #[.int .u8 v1, .string v2, .slice v3 v4 v5, .slice v6 v7 v8] 34))
  have HB4 := Lib.hid ((HB1.out.trans (b3.mono HB1.out.size)).alloc (HB1.out.trans (b3.mono HB1.out.size)).size (.cells #[.int .u8 v1, .string v2, .slice v3 v4 v5, .slice v6 v7 v8] 34))
  have HN4 := Lib.hid (Blk.new w3 34 #[.int .u8 v1, .string v2, .slice v3 v4 v5, .slice v6 v7 v8])
  have HM4 : Hid (NodeW (w3.alloc (.cells #[.int .u8 v1, .string v2, .slice v3 v4 v5, .slice v6 v7 v8] 34)) (fun g => W1.heap.size ≤ g) n (.agg #[.int .u8 v1, .string v2, .slice v3 v4 v5, .slice v6 v7 v8])) := node_alloc _ hn3
  clear hn3 b3 HX1 HB1 x2 P1
  go_upto_region 2 with fail
  generalize hW : w3.alloc (.cells #[.int .u8 v1, .string v2, .slice v3 v4 v5, .slice v6 v7 v8] 34) = W4 at *
  clear hW
  generalize hBN : w3.heap.size = BN at *
  clear hBN
  have K1 : W4.drew.cell? ⟨w.heap.size, 0, none⟩ = some (.bool f) ∧ W4.drew.cell? ⟨w.heap.size, 1, none⟩ = some (.string r) ∧ W4.drew.cell? ⟨w.heap.size, 2, none⟩ = some (.string b) := ⟨HX4.out.cell 0, HX4.out.cell 1, HX4.out.cell 2⟩
  have HK2 : Hid (∀ w', Below W4.drew.heap.size W4.drew w' → w'.cell? ⟨w.heap.size, 0, none⟩ = some (.bool f) ∧ w'.cell? ⟨w.heap.size, 1, none⟩ = some (.string r) ∧ w'.cell? ⟨w.heap.size, 2, none⟩ = some (.string b)) := by
    intro w' h
    have h3 := HX4.out.below (below_drewT h) HX4.out.lt
    exact ⟨h3.cell 0, h3.cell 1, h3.cell 2⟩
  rcases hcs with ⟨h1, hE⟩ | hcs
  · have q : (X.toList == r.toList) = false := by rw [beq_eq_false_iff_ne, ByteArray.toList_eq, ByteArray.toList_eq]; exact fun h => h1 (hcX.1 (ba_ext h))
    have HE := Lib.hid hE
    clear hE h1 hcX
    refine wp_region_held_drew (S := (fun w' => w'.cell? ⟨w.heap.size, 0, none⟩ = some (.bool f) ∧ w'.cell? ⟨w.heap.size, 1, none⟩ = some (.string r) ∧ w'.cell? ⟨w.heap.size, 2, none⟩ = some (.string b))) (by kernel_rfl) (by with_reducible exact K1) (fun hHeld => ?_)
    refine wpAnyH_take (i := 0) (v := ?_) rfl (by kernel_rfl) (by kernel_rfl) (by kernel_rfl) (fun _ _ _ h => h) (Or.inl ⟨by rfl, ?_⟩) (by assumption) ?_
    rotate_left
    · intro w hSw
      go_simp
      try rfl
    simp only [Act.put, List.setIfInBounds_toArray, List.set_cons_zero, List.set_cons_succ, List.getElem_toArray, List.getElem_cons_succ, List.getElem_cons_zero]
    refine wpAnyH_take (i := 1) (v := ?_) rfl (by kernel_rfl) (by kernel_rfl) (by kernel_rfl) (fun _ _ _ h => h) (Or.inl ⟨by rfl, ?_⟩) (by assumption) ?_
    rotate_left
    · intro w hSw
      go_simp
      try rfl
    simp only [Act.put, List.setIfInBounds_toArray, List.set_cons_zero, List.set_cons_succ, List.getElem_toArray, List.getElem_cons_succ, List.getElem_cons_zero]
    refine wpAnyH_take (i := 3) (v := ?_) rfl (by kernel_rfl) (by kernel_rfl) (by kernel_rfl) (fun _ _ _ h => h) (Or.inl ⟨by rfl, ?_⟩) (by assumption) ?_
    rotate_left
    · intro w hSw
      go_simp
      try rfl
    simp only [Act.put, List.setIfInBounds_toArray, List.set_cons_zero, List.set_cons_succ, List.getElem_toArray, List.getElem_cons_succ, List.getElem_cons_zero]
    refine wpAnyH_take (i := 4) (v := ?_) rfl (by kernel_rfl) (by kernel_rfl) (by kernel_rfl) (fun _ _ _ h => h) (Or.inl ⟨by rfl, ?_⟩) (by assumption) ?_
    rotate_left
    · intro w hSw
      go_simp
      try rfl
    simp only [Act.put, List.setIfInBounds_toArray, List.set_cons_zero, List.set_cons_succ, List.getElem_toArray, List.getElem_cons_succ, List.getElem_cons_zero]
    refine wpAnyH_ready (rs := [2]) (by kernel_rfl) (by simp) ?_
    refine AllReadyH.cons rfl (fun K9 hK => ?_) AllReadyH.nil
    go_simp
    go_at_call 37; refine (HC.out _).mono ?_; rintro e w6 ⟨rfl, k6⟩
    try go_wp2_with fail
    refine hK.out _ _ (by exact HK2.out _ k6) (fun hHeld => ?_)
    clear hK K9
    try simp only [Act.put, List.setIfInBounds_toArray, List.set_cons_zero, List.set_cons_succ, List.getElem_toArray, List.getElem_cons_succ, List.getElem_cons_zero]
    refine wpAnyH_take (i := 5) (v := ?_) rfl (by kernel_rfl) (by kernel_rfl) (by kernel_rfl) (fun _ _ _ h => h) (Or.inl ⟨by rfl, ?_⟩) (by assumption) ?_
    rotate_left
    · intro w hSw
      go_simp
      try rfl
    simp only [Act.put, List.setIfInBounds_toArray, List.set_cons_zero, List.set_cons_succ, List.getElem_toArray, List.getElem_cons_succ, List.getElem_cons_zero]
    refine wpAnyH_take (i := 6) (v := ?_) rfl (by kernel_rfl) (by kernel_rfl) (by kernel_rfl) (fun _ _ _ h => h) (Or.inl ⟨by rfl, ?_⟩) (by assumption) ?_
    rotate_left
    · intro w hSw
      go_simp
      try rfl
    simp only [Act.put, List.setIfInBounds_toArray, List.set_cons_zero, List.set_cons_succ, List.getElem_toArray, List.getElem_cons_succ, List.getElem_cons_zero]
    refine wpAnyH_take (i := 7) (v := undef) rfl (by kernel_rfl) (by kernel_rfl) (by kernel_rfl) (fun _ _ _ h => h) (Or.inr ⟨by rfl, rfl⟩) (by assumption) ?_
    simp only [Act.put, List.setIfInBounds_toArray, List.set_cons_zero, List.set_cons_succ, List.getElem_toArray, List.getElem_cons_succ, List.getElem_cons_zero]
    refine wpAnyH_take (i := 8) (v := undef) rfl (by kernel_rfl) (by kernel_rfl) (by kernel_rfl) (fun _ _ _ h => h) (Or.inr ⟨by rfl, rfl⟩) (by assumption) ?_
    simp only [Act.put, List.setIfInBounds_toArray, List.set_cons_zero, List.set_cons_succ, List.getElem_toArray, List.getElem_cons_succ, List.getElem_cons_zero]
    refine wpAnyH_take (i := 9) (v := ?_) rfl (by kernel_rfl) (by kernel_rfl) (by kernel_rfl) (fun _ _ _ h => h) (Or.inl ⟨by rfl, ?_⟩) (by assumption) ?_
    rotate_left
    · intro w hSw
      go_simp
      try rfl
    simp only [Act.put, List.setIfInBounds_toArray, List.set_cons_zero, List.set_cons_succ, List.getElem_toArray, List.getElem_cons_succ, List.getElem_cons_zero]
    refine wpAnyH_done (by kernel_rfl) ?_ _
    clear hHeld
    go_wp2_with fail
    go_ret
    exact ⟨by rw [HE.out]; rfl, HB4.out.trans ((below_drewT k6).mono HB4.out.size)⟩
  · have hXr : X = r := hcX.2 (by rcases hcs with h | h | h | h <;> exact h.1)
    have q : (X.toList == r.toList) = true := by rw [hXr]; simp
    clear hcX hXr
    rcases hcs with ⟨_, rfl, hE⟩ | ⟨_, rfl, _, hE⟩ | hcs
    · have HE := Lib.hid hE
      clear hE
      go_region_held3 (fun w' => w'.cell? ⟨w.heap.size, 0, none⟩ = some (.bool f) ∧ w'.cell? ⟨w.heap.size, 1, none⟩ = some (.string r) ∧ w'.cell? ⟨w.heap.size, 2, none⟩ = some (.string b)) (first | (with_reducible exact K1) | (exact HK2.out _ k6)) ((go_at_call 37; refine (HC.out _).mono ?_; rintro e w6 ⟨rfl, k6⟩))
      go_wp2_with fail
      go_ret
      exact ⟨by rw [HE.out]; rfl, HB4.out.trans ((below_drewT k6).mono HB4.out.size)⟩
    · have HE := Lib.hid hE
      clear hE
      go_region_held3 (fun w' => w'.cell? ⟨w.heap.size, 0, none⟩ = some (.bool f) ∧ w'.cell? ⟨w.heap.size, 1, none⟩ = some (.string r) ∧ w'.cell? ⟨w.heap.size, 2, none⟩ = some (.string b)) (first | (with_reducible exact K1) | (exact HK2.out _ k6)) ((go_at_call 37; refine (HC.out _).mono ?_; rintro e w6 ⟨rfl, k6⟩))
      go_wp2_with fail
      go_ret
      exact ⟨by rw [HE.out]; rfl, HB4.out.trans ((below_drewT k6).mono HB4.out.size)⟩
    · have hc0 : c = 0 := by rcases hcs with h | h <;> exact h.2.1
      subst hc0
      go_region_held3 (fun w' => w'.cell? ⟨w.heap.size, 0, none⟩ = some (.bool f) ∧ w'.cell? ⟨w.heap.size, 1, none⟩ = some (.string r) ∧ w'.cell? ⟨w.heap.size, 2, none⟩ = some (.string b)) (first | (with_reducible exact K1) | (exact HK2.out _ k6)) ((go_at_call 37; refine (HC.out _).mono ?_; rintro e w6 ⟨rfl, k6⟩))
      have b6 := HB4.out.trans ((below_drewT k6).mono HB4.out.size)
      have HB6 := Lib.hid b6
      have hN6 := HN4.out.below (below_drewT k6) HN4.out.lt
      have HD6 := Lib.hid (rdeep_any 2000 n _ _ w6 (by omega) (by omega) (HM4.out.belowT (below_drewT k6)))
      have y0 := hN6.cell 0
      have y1 := hN6.cell 1
      have y2 := hN6.cell 2
      have y3 := hN6.cell 3
      clear b6 HK2 K1 HB4 k6 HX4 HN4 HM4 hN6 hbl2
      have hcs2 : (32 ≤ deepN n ∧ E = 8) ∨ (deepN n < 32 ∧ E = 0) := by
        rcases hcs with ⟨_, _, h1, _, h2⟩ | ⟨_, _, h1, _, h2⟩
        · exact .inl ⟨h1, h2⟩
        · exact .inr ⟨h1, h2⟩
      clear hcs
      generalize deepN n = D at *
      rcases hcs2 with ⟨hD, hE⟩ | ⟨hD, hE⟩
      all_goals
        have HE := Lib.hid hE
        clear hE
        go_wp2_with fail
        refine (HD6.out).mono ?_
        rintro e w7 ⟨rfl, b7⟩
        have HB7 := Lib.hid (HB6.out.trans (b7.mono HB6.out.size))
        clear b7 HB6 HD6
        go_wp2_with fail
        go_ret
        exact ⟨by rw [HE.out]; rfl, HB7.out⟩
end Go.Proofs.Ytdfnlcigbmiafaa

/- Walks: a hook's check and its text: the texts (chapter 37). -/
namespace Go.Proofs.Ytdfnlcigbmiafaa
open Go.RowKit
set_option linter.unusedVariables false
set_option linter.unusedSimpArgs false
theorem word_any (f : Bool) (w : World) : Calls Try.prog 18 #[.bool f] w fun e w' => e = .returned (.string (wordB f)) ∧ w' = w := by
  cases f
  all_goals
    go_enter Try.func18, Try.ntmps18
    go_wp2
    go_ret
    exact ⟨rfl, rfl⟩
set_option maxRecDepth 100000 in
set_option maxHeartbeats 8000000 in
theorem wbuild_any (f : Bool) (r b : ByteArray) (w : World) (hr : r.size ≤ 1000) (hb : b.size ≤ 1000) :
    Calls Try.prog 8 #[.agg #[.bool f, .string r, .string b]] w fun e w' => e = .returned (.tuple #[.string (hookT f r.data.toList b.data.toList), .int .i64 (hookE r.data.toList b.data.toList)]) ∧ Below w.heap.size w w' := by
  obtain ⟨A1, A2, A3, A4, A5, A6, ⟨a1, a2, a3, a4, a5, a6⟩, z1, z2, z3, z4, z5, z6, hA6⟩ := hook_parts f r b hr hb
  have HCk := Lib.hid (fun w => wcheck_any f r b w hr hb)
  have HWr := Lib.hid (fun w => write_any r w (by omega))
  have hwz : (strOf (writeJ r.data.toList)).size ≤ 8000 := by
    rw [strOf_size]; have := write_length r.data.toList; have := sz_len r; omega
  have h6 : hookE r.data.toList b.data.toList = 0 → hookT f r.data.toList b.data.toList = A6 := fun h => by rw [hookT_ok h, hA6]
  have h7 : hookE r.data.toList b.data.toList ≠ 0 → hookT f r.data.toList b.data.toList = ⟨#[]⟩ := fun h => hookT_no h
  have HWd := Lib.hid (fun w => word_any f w)
  clear hA6
  have q1 : ¬ 9223372036854775807 < 13 + (strOf (writeJ r.data.toList)).size := by omega
  have q2 : ¬ 9223372036854775807 < A1.size + 12 := by omega
  have q3 : ¬ 9223372036854775807 < A2.size + (wordB f).size := by have : (wordB f).size ≤ 8 := by cases f <;> decide
                                                                   omega
  have q7 : ¬ 9223372036854775807 < A2.size + 6 := by omega
  have q8 : ¬ 9223372036854775807 < A2.size + 8 := by omega
  have q4 : ¬ 9223372036854775807 < A3.size + 9 := by omega
  have q5 : ¬ 9223372036854775807 < A4.size + b.size := by omega
  have q6 : ¬ 9223372036854775807 < A5.size + 1 := by omega
  generalize strOf (writeJ r.data.toList) = X at *
  generalize hookE r.data.toList b.data.toList = E at *
  generalize hookT f r.data.toList b.data.toList = HT at *
  have HX1 := Lib.hid (Blk.new w 23 #[.bool f, .string r, .string b])
  have HB1 := Lib.hid ((Below.refl w.heap.size w).alloc (Nat.le_refl _) (.cells #[.bool f, .string r, .string b] 23))
  go_enter Try.func8, Try.ntmps8
  go_upto_region 1 with fail
  generalize hW : w.alloc (.cells #[.bool f, .string r, .string b] 23) = W1 at *
  clear hW
  have x0 := HX1.out.cell 0
  have x1 := HX1.out.cell 1
  have x2 := HX1.out.cell 2
  go_wp2_with fail
  refine (HCk.out _).mono ?_
  rintro e w3 ⟨rfl, b3⟩
  have HX4 := Lib.hid (HX1.out.below b3 HX1.out.lt)
  have HB4 := Lib.hid (HB1.out.trans (b3.mono HB1.out.size))
  clear b3 HX1 HB1 x0 x1 x2
  by_cases hE : E = 0
  · have HT6 := Lib.hid (h6 hE)
    subst hE
    clear h6 h7
    go_upto_region 4 with fail
    have K1 : w3.drew.cell? ⟨w.heap.size, 0, none⟩ = some (.bool f) ∧ w3.drew.cell? ⟨w.heap.size, 1, none⟩ = some (.string r) ∧ w3.drew.cell? ⟨w.heap.size, 2, none⟩ = some (.string b) := ⟨HX4.out.cell 0, HX4.out.cell 1, HX4.out.cell 2⟩
    have HK2 : Hid (∀ w', Below w3.drew.heap.size w3.drew w' → w'.cell? ⟨w.heap.size, 0, none⟩ = some (.bool f) ∧ w'.cell? ⟨w.heap.size, 1, none⟩ = some (.string r) ∧ w'.cell? ⟨w.heap.size, 2, none⟩ = some (.string b)) := by
      intro w' h
      have h3 := HX4.out.below (below_drewT h) HX4.out.lt
      exact ⟨h3.cell 0, h3.cell 1, h3.cell 2⟩
    clear HX4
    generalize wordB f = Z at *
    go_region_held3 (fun w' => w'.cell? ⟨w.heap.size, 0, none⟩ = some (.bool f) ∧ w'.cell? ⟨w.heap.size, 1, none⟩ = some (.string r) ∧ w'.cell? ⟨w.heap.size, 2, none⟩ = some (.string b)) (first | (with_reducible exact K1) | (exact HK2.out _ k6)) (first | (go_at_call 17; refine (HWr.out _).mono ?_; rintro e w6 ⟨rfl, k6⟩) | (go_at_call 18; refine (HWd.out _).mono ?_; rintro e w7 ⟨rfl, rfl⟩))
    go_wp2_with fail
    go_ret2
    exact ⟨by rw [HT6.out]; rfl, HB4.out.trans ((below_drewT k6).mono HB4.out.size)⟩
  · have HT7 := Lib.hid (h7 hE)
    have q : (E != 0) = true := by simpa [bne_iff_ne] using hE
    clear h6 h7 hE
    go_wp2_with fail
    go_ret2
    exact ⟨by rw [HT7.out]; rfl, HB4.out⟩
set_option maxRecDepth 100000 in
set_option maxHeartbeats 8000000 in
theorem hbuild_any (f : Bool) (r b : ByteArray) (w : World) (hr : r.size ≤ 1000) (hb : b.size ≤ 1000) :
    Calls Try.prog 9 #[.agg #[.bool f, .string r, .string b]] w fun e w' => e = .returned (.tuple #[.string (hookT f r.data.toList b.data.toList), .int .i64 (hookE r.data.toList b.data.toList)]) ∧ Below w.heap.size w w' := by
  obtain ⟨A1, A2, A3, A4, A5, A6, ⟨a1, a2, a3, a4, a5, a6⟩, z1, z2, z3, z4, z5, z6, hA6⟩ := hook_parts f r b hr hb
  have HCk := Lib.hid (fun w => hcheck_any f r b w hr hb)
  have HWr := Lib.hid (fun w => rwrite_any r w (by omega))
  have hwz : (strOf (writeJ r.data.toList)).size ≤ 8000 := by
    rw [strOf_size]; have := write_length r.data.toList; have := sz_len r; omega
  have h6 : hookE r.data.toList b.data.toList = 0 → hookT f r.data.toList b.data.toList = A6 := fun h => by rw [hookT_ok h, hA6]
  have h7 : hookE r.data.toList b.data.toList ≠ 0 → hookT f r.data.toList b.data.toList = ⟨#[]⟩ := fun h => hookT_no h
  have HWd := Lib.hid (fun w => word_any f w)
  clear hA6
  have q1 : ¬ 9223372036854775807 < 13 + (strOf (writeJ r.data.toList)).size := by omega
  have q2 : ¬ 9223372036854775807 < A1.size + 12 := by omega
  have q3 : ¬ 9223372036854775807 < A2.size + (wordB f).size := by have : (wordB f).size ≤ 8 := by cases f <;> decide
                                                                   omega
  have q7 : ¬ 9223372036854775807 < A2.size + 6 := by omega
  have q8 : ¬ 9223372036854775807 < A2.size + 8 := by omega
  have q4 : ¬ 9223372036854775807 < A3.size + 9 := by omega
  have q5 : ¬ 9223372036854775807 < A4.size + b.size := by omega
  have q6 : ¬ 9223372036854775807 < A5.size + 1 := by omega
  generalize strOf (writeJ r.data.toList) = X at *
  generalize hookE r.data.toList b.data.toList = E at *
  generalize hookT f r.data.toList b.data.toList = HT at *
  have HX1 := Lib.hid (Blk.new w 23 #[.bool f, .string r, .string b])
  have HB1 := Lib.hid ((Below.refl w.heap.size w).alloc (Nat.le_refl _) (.cells #[.bool f, .string r, .string b] 23))
  go_enter Try.func9, Try.ntmps9
  go_upto_region 1 with fail
  generalize hW : w.alloc (.cells #[.bool f, .string r, .string b] 23) = W1 at *
  clear hW
  have x0 := HX1.out.cell 0
  have x1 := HX1.out.cell 1
  have x2 := HX1.out.cell 2
  go_wp2_with fail
  refine (HCk.out _).mono ?_
  rintro e w3 ⟨rfl, b3⟩
  have HX4 := Lib.hid (HX1.out.below b3 HX1.out.lt)
  have HB4 := Lib.hid (HB1.out.trans (b3.mono HB1.out.size))
  clear b3 HX1 HB1 x0 x1 x2
  by_cases hE : E = 0
  · have HT6 := Lib.hid (h6 hE)
    subst hE
    clear h6 h7
    have x0 := HX4.out.cell 0
    cases f
    all_goals
      simp only [wordB, if_true, if_false, Bool.false_eq_true] at a3
      go_upto_region 7 with fail
      have K1 : w3.drew.cell? ⟨w.heap.size, 1, none⟩ = some (.string r) ∧ w3.drew.cell? ⟨w.heap.size, 2, none⟩ = some (.string b) := ⟨HX4.out.cell 1, HX4.out.cell 2⟩
      have HK2 : Hid (∀ w', Below w3.drew.heap.size w3.drew w' → w'.cell? ⟨w.heap.size, 1, none⟩ = some (.string r) ∧ w'.cell? ⟨w.heap.size, 2, none⟩ = some (.string b)) := by
        intro w' h
        have h3 := HX4.out.below (below_drewT h) HX4.out.lt
        exact ⟨h3.cell 1, h3.cell 2⟩
      clear HX4 x0
      go_region_held3 (fun w' => w'.cell? ⟨w.heap.size, 1, none⟩ = some (.string r) ∧ w'.cell? ⟨w.heap.size, 2, none⟩ = some (.string b)) (first | (with_reducible exact K1) | (exact HK2.out _ k6)) ((go_at_call 20; refine (HWr.out _).mono ?_; rintro e w6 ⟨rfl, k6⟩))
      go_wp2_with fail
      go_ret2
      exact ⟨by rw [HT6.out]; rfl, HB4.out.trans ((below_drewT k6).mono HB4.out.size)⟩
  · have HT7 := Lib.hid (h7 hE)
    have q : (E != 0) = true := by simpa [bne_iff_ne] using hE
    clear h6 h7 hE
    go_wp2_with fail
    go_ret2
    exact ⟨by rw [HT7.out]; rfl, HB4.out⟩
end Go.Proofs.Ytdfnlcigbmiafaa

/- Walks: the law's short, its example, and the laws WebhookBuilds and WebhookDeep (chapter 37). -/
namespace Go.Proofs.Ytdfnlcigbmiafaa
open Go.RowKit
set_option linter.unusedVariables false
set_option linter.unusedSimpArgs false
def cut37 (m : Nat) (s : ByteArray) : ByteArray := s.extract 0 (min s.size m)
theorem cut37_size (m : Nat) (s : ByteArray) : (cut37 m s).size ≤ m := by unfold cut37; rw [ByteArray.size_extract]; omega
set_option maxRecDepth 100000 in
set_option maxHeartbeats 4000000 in
theorem short37_any (f : Bool) (r b : ByteArray) (w : World) (hr : r.size ≤ 9223372036854775807) (hb : b.size ≤ 9223372036854775807) :
    Calls Try.prog 7 #[.agg #[.bool f, .string r, .string b]] w fun e w' => e = .returned (.agg #[.bool f, .string (cut37 120 r), .string (cut37 250 b)]) ∧ Below w.heap.size w w' := by
  have e1 : (r.extract 0 (min (r.size : Int) 120).toNat = cut37 120 r) := by
    unfold cut37; congr 1; omega
  have e2 : (b.extract 0 (min (b.size : Int) 250).toNat = cut37 250 b) := by
    unfold cut37; congr 1; omega
  generalize cut37 120 r = R2 at *
  generalize cut37 250 b = B2 at *
  have HX1 := Lib.hid ((Blk.new w 23 #[.bool f, .string r, .string b]).alloc (.cells #[.bool false, .string ⟨#[]⟩, .string ⟨#[]⟩] 23))
  have HY1 := Lib.hid (Blk.new (w.alloc (.cells #[.bool f, .string r, .string b] 23)) 23 #[.bool false, .string ⟨#[]⟩, .string ⟨#[]⟩])
  rw [World.size_alloc] at HY1
  have HB1 := Lib.hid (((Below.refl w.heap.size w).alloc (Nat.le_refl _) (.cells #[.bool f, .string r, .string b] 23)).alloc (by rw [World.size_alloc]; exact Nat.le_succ _) (.cells #[.bool false, .string ⟨#[]⟩, .string ⟨#[]⟩] 23))
  go_enter Try.func7, Try.ntmps7
  go_upto_region 1 with fail
  generalize hW : (w.alloc (.cells #[.bool f, .string r, .string b] 23)).alloc (.cells #[.bool false, .string ⟨#[]⟩, .string ⟨#[]⟩] 23) = W1 at *
  clear hW
  have K1 : W1.drew.cell? ⟨w.heap.size, 0, none⟩ = some (.bool f) ∧ W1.drew.cell? ⟨w.heap.size, 1, none⟩ = some (.string r) ∧ W1.drew.cell? ⟨w.heap.size, 2, none⟩ = some (.string b) := ⟨HX1.out.cell 0, HX1.out.cell 1, HX1.out.cell 2⟩
  have y0 := HY1.out.cell 0
  have y1 := HY1.out.cell 1
  have y2 := HY1.out.cell 2
  have f0 := HY1.out.frozen 0
  have f1 := HY1.out.frozen 1
  have f2 := HY1.out.frozen 2
  have d1 : (0 : Int) ≤ min (r.size : Int) 120 := by omega
  have d2 : min (r.size : Int) 120 ≤ (r.size : Int) := by omega
  have d3 : (0 : Int) ≤ min (b.size : Int) 250 := by omega
  have d4 : min (b.size : Int) 250 ≤ (b.size : Int) := by omega
  have HX2 := Lib.hid (((HX1.out.far (p := ⟨w.heap.size + 1, 0, none⟩) (by show w.heap.size ≠ w.heap.size + 1; omega) (.bool f)).far (p := ⟨w.heap.size + 1, 1, none⟩) (by show w.heap.size ≠ w.heap.size + 1; omega) (.string R2)).far (p := ⟨w.heap.size + 1, 2, none⟩) (by show w.heap.size ≠ w.heap.size + 1; omega) (.string B2))
  have HY2 := Lib.hid (((HY1.out.set_ 0 (.bool f)).set_ 1 (.string R2)).set_ 2 (.string B2))
  have HB2 := Lib.hid (((HB1.out.setCell (p := ⟨w.heap.size + 1, 0, none⟩) (Nat.le_succ _) (.bool f)).setCell (p := ⟨w.heap.size + 1, 1, none⟩) (Nat.le_succ _) (.string R2)).setCell (p := ⟨w.heap.size + 1, 2, none⟩) (Nat.le_succ _) (.string B2))
  have K3 : (((W1.setCell ⟨w.heap.size + 1, 0, none⟩ (.bool f)).setCell ⟨w.heap.size + 1, 1, none⟩ (.string R2)).setCell ⟨w.heap.size + 1, 2, none⟩ (.string B2)).drew.cell? ⟨w.heap.size, 0, none⟩ = some (.bool f) ∧ (((W1.setCell ⟨w.heap.size + 1, 0, none⟩ (.bool f)).setCell ⟨w.heap.size + 1, 1, none⟩ (.string R2)).setCell ⟨w.heap.size + 1, 2, none⟩ (.string B2)).drew.cell? ⟨w.heap.size, 1, none⟩ = some (.string r) ∧ (((W1.setCell ⟨w.heap.size + 1, 0, none⟩ (.bool f)).setCell ⟨w.heap.size + 1, 1, none⟩ (.string R2)).setCell ⟨w.heap.size + 1, 2, none⟩ (.string B2)).drew.cell? ⟨w.heap.size, 2, none⟩ = some (.string b) := ⟨HX2.out.cell 0, HX2.out.cell 1, HX2.out.cell 2⟩
  go_region_held3 (fun w' => w'.cell? ⟨w.heap.size, 0, none⟩ = some (.bool f) ∧ w'.cell? ⟨w.heap.size, 1, none⟩ = some (.string r) ∧ w'.cell? ⟨w.heap.size, 2, none⟩ = some (.string b)) (first | (with_reducible exact K1) | (with_reducible exact K3)) (fail)
  all_goals
    go_wp2_with fail
    have t0 : (((W1.setCell ⟨w.heap.size + 1, 0, none⟩ (.bool f)).setCell ⟨w.heap.size + 1, 1, none⟩ (.string R2)).setCell ⟨w.heap.size + 1, 2, none⟩ (.string B2)).drew.cell? ⟨w.heap.size + 1, 0, none⟩ = some (.bool f) := HY2.out.cell 0
    have t1 : (((W1.setCell ⟨w.heap.size + 1, 0, none⟩ (.bool f)).setCell ⟨w.heap.size + 1, 1, none⟩ (.string R2)).setCell ⟨w.heap.size + 1, 2, none⟩ (.string B2)).drew.cell? ⟨w.heap.size + 1, 1, none⟩ = some (.string R2) := HY2.out.cell 1
    have t2 : (((W1.setCell ⟨w.heap.size + 1, 0, none⟩ (.bool f)).setCell ⟨w.heap.size + 1, 1, none⟩ (.string R2)).setCell ⟨w.heap.size + 1, 2, none⟩ (.string B2)).drew.cell? ⟨w.heap.size + 1, 2, none⟩ = some (.string B2) := HY2.out.cell 2
    exact bodyPost_ret (v := .agg #[.bool f, .string R2, .string B2]) (by simp [results, Try.f7, go_sem, t0, t1, t2]) rfl ⟨rfl, HB2.out.drew⟩
theorem awk37_e : hookE [97, 34, 98] [91, 49, 93] = 0 := by decide +kernel
theorem awk37_t : hookL true [97, 34, 98] [91, 49, 93] = [123, 34, 114, 101, 99, 101, 105, 118, 101, 114, 34, 58, 34, 97, 92, 34, 98, 34, 44, 34, 115, 116, 97, 116, 117, 115, 34, 58, 34, 102, 105, 114, 105, 110, 103, 34, 44, 34, 98, 111, 100, 121, 34, 58, 91, 49, 93, 125] := by decide +kernel
theorem awake37_any (w : World) :
    Calls Try.prog 11 #[] w fun e w' => e = .returned (.bool true) ∧ Below w.heap.size w w' := by
  have T1 := Lib.hid (fun w => wbuild_any true ⟨#[97, 34, 98]⟩ ⟨#[91, 49, 93]⟩ w (by decide) (by decide))
  have e1 : hookE (ByteArray.mk #[97, 34, 98]).data.toList (ByteArray.mk #[91, 49, 93]).data.toList = 0 := awk37_e
  rw [hookT_ok e1, e1, show hookL true (ByteArray.mk #[97, 34, 98]).data.toList (ByteArray.mk #[91, 49, 93]).data.toList = _ from awk37_t] at T1
  have T2 : Hid (∀ w, Calls Try.prog 8 #[.agg #[.bool true, .string ⟨#[97, 34, 98]⟩, .string ⟨#[91, 49, 93]⟩]] w fun e w' => e = .returned (.tuple #[.string ⟨#[123, 34, 114, 101, 99, 101, 105, 118, 101, 114, 34, 58, 34, 97, 92, 34, 98, 34, 44, 34, 115, 116, 97, 116, 117, 115, 34, 58, 34, 102, 105, 114, 105, 110, 103, 34, 44, 34, 98, 111, 100, 121, 34, 58, 91, 49, 93, 125]⟩, .int .i64 0]) ∧ Below w.heap.size w w') := T1
  clear T1 e1
  go_enter Try.func11, Try.ntmps11
  go_wp2_with fail
  refine (T2.out _).mono ?_
  rintro e w2 ⟨rfl, b2⟩
  go_wp2_with fail
  go_ret
  exact ⟨rfl, b2⟩
set_option maxRecDepth 100000 in
set_option maxHeartbeats 4000000 in
theorem lawBuilds37 (f : Bool) (r b : ByteArray) (w : World) (hr : r.size ≤ 9223372036854775807) (hb : b.size ≤ 9223372036854775807) :
    Calls Try.prog 3 #[.agg #[.bool f, .string r, .string b]] w fun e w' => e = .returned (.bool true) ∧ Below w.heap.size w w' := by
  have HS := Lib.hid (fun w => short37_any f r b w hr hb)
  have z1 := cut37_size 120 r
  have z2 := cut37_size 250 b
  generalize cut37 120 r = r2 at *
  generalize cut37 250 b = b2 at *
  have HP := Lib.hid (fun w => wbuild_any f r2 b2 w (by omega) (by omega))
  have HR := Lib.hid (fun w => hbuild_any f r2 b2 w (by omega) (by omega))
  have HC := Lib.hid (fun w => wcheck_any f r2 b2 w (by omega) (by omega))
  have HA := Lib.hid awake37_any
  generalize hookT f r2.data.toList b2.data.toList = X at *
  generalize hookE r2.data.toList b2.data.toList = E at *
  have HX1 := Lib.hid (Blk.new w 23 #[.bool f, .string r, .string b])
  have HB1 := Lib.hid ((Below.refl w.heap.size w).alloc (Nat.le_refl _) (.cells #[.bool f, .string r, .string b] 23))
  go_enter Try.func3, Try.ntmps3
  go_upto_region 1 with fail
  generalize hW : w.alloc (.cells #[.bool f, .string r, .string b] 23) = W1 at *
  clear hW
  have x0 := HX1.out.cell 0
  have x1 := HX1.out.cell 1
  have x2 := HX1.out.cell 2
  go_wp2_with fail
  refine (HS.out _).mono ?_
  rintro e w2 ⟨rfl, k2⟩
  have HX2 := Lib.hid (HX1.out.below k2 HX1.out.lt)
  have HB2 := Lib.hid (HB1.out.trans (k2.mono HB1.out.size))
  clear x0 x1 x2 k2 HX1 HB1
  have x0 := HX2.out.cell 0
  have x1 := HX2.out.cell 1
  have x2 := HX2.out.cell 2
  have f0 := HX2.out.frozen 0
  have f1 := HX2.out.frozen 1
  have f2 := HX2.out.frozen 2
  have HX3 := Lib.hid (((HX2.out.set_ 0 (.bool f)).set_ 1 (.string r2)).set_ 2 (.string b2))
  have HB3 := Lib.hid (((HB2.out.setCell (p := ⟨w.heap.size, 0, none⟩) (Nat.le_refl _) (.bool f)).setCell (p := ⟨w.heap.size, 1, none⟩) (Nat.le_refl _) (.string r2)).setCell (p := ⟨w.heap.size, 2, none⟩) (Nat.le_refl _) (.string b2))
  clear HX2 HB2
  go_upto_region 2 with fail
  clear x0 x1 x2 f0 f1 f2
  generalize hW : ((w2.setCell ⟨w.heap.size, 0, none⟩ (.bool f)).setCell ⟨w.heap.size, 1, none⟩ (.string r2)).setCell ⟨w.heap.size, 2, none⟩ (.string b2) = W3 at *
  clear hW
  have x0 := HX3.out.cell 0
  have x1 := HX3.out.cell 1
  have x2 := HX3.out.cell 2
  go_wp2_with fail
  refine (HP.out _).mono ?_
  rintro e w4 ⟨rfl, k4⟩
  have HX4 := Lib.hid (HX3.out.below k4 HX3.out.lt)
  have HB4 := Lib.hid (HB3.out.trans (k4.mono HB3.out.size))
  clear x0 x1 x2 k4 HX3 HB3
  have x0 := HX4.out.cell 0
  have x1 := HX4.out.cell 1
  have x2 := HX4.out.cell 2
  go_wp2_with fail
  refine (HR.out _).mono ?_
  rintro e w5 ⟨rfl, k5⟩
  have HX5 := Lib.hid (HX4.out.below k5 HX4.out.lt)
  have HB5 := Lib.hid (HB4.out.trans (k5.mono HB4.out.size))
  clear x0 x1 x2 k5 HX4 HB4
  have x0 := HX5.out.cell 0
  have x1 := HX5.out.cell 1
  have x2 := HX5.out.cell 2
  have qX : (X.toList == X.toList) = true := by simp
  have qE : (E == E) = true := beq_self_eq_true E
  go_wp2_with fail
  refine (HC.out _).mono ?_
  rintro e w6 ⟨rfl, k6⟩
  have HB6 := Lib.hid (HB5.out.trans (k6.mono HB5.out.size))
  clear x0 x1 x2 k6 HX5 HB5
  go_wp2_with fail
  refine (HA.out _).mono ?_
  rintro e w7 ⟨rfl, k7⟩
  go_wp2_with fail
  go_ret
  exact ⟨rfl, HB6.out.trans (k7.mono HB6.out.size)⟩
end Go.Proofs.Ytdfnlcigbmiafaa

/- Plain: what is written of a hook is a map of three members (chapter 37). -/
namespace Go.Proofs.Ytdfnlcigbmiafaa
set_option linter.unusedVariables false
set_option linter.unusedSimpArgs false
def tRec : List UInt8 := [114, 101, 99, 101, 105, 118, 101, 114]
def tStat : List UInt8 := [115, 116, 97, 116, 117, 115]
def tBody : List UInt8 := [98, 111, 100, 121]
theorem shiftT_comp (a b : Nat) (ts : List Tok) : (ts.map (shiftT a)).map (shiftT b) = ts.map (shiftT (b + a)) := by
  rw [List.map_map]
  exact List.map_congr_left fun t _ => by simp [shiftT, Nat.add_assoc]
/-- A text that is just these tokens, whatever stands behind it. -/
def Pre (p : List UInt8) (ts : List Tok) : Prop := ∀ t, toks (p ++ t) = (toks t).map fun us => ts ++ us.map (shiftT p.length)
theorem pre_mark {c : UInt8} (hc : markK c.toNat) : Pre [c] [⟨c.toNat, [], 0, 1⟩] := fun t => by
  show toks (c :: t) = _
  rw [toks_mark hc, Option.map_map]; rfl
theorem pre_str {u : List UInt8} (hu : joined (runes u) = u) : Pre (34 :: (writeJ u ++ [34])) [⟨34, u, 0, (writeJ u).length + 2⟩] := fun t => by
  have e : 34 :: (writeJ u ++ [34]) ++ t = 34 :: (writeJ u ++ 34 :: t) := by simp
  rw [e, toks_str hu, Option.map_map]
  have e2 : (34 :: (writeJ u ++ [34])).length = (writeJ u).length + 2 := by simp
  rw [e2]; rfl
theorem Pre.append {p q : List UInt8} {ts us : List Tok} (hp : Pre p ts) (hq : Pre q us) : Pre (p ++ q) (ts ++ us.map (shiftT p.length)) := fun t => by
  rw [List.append_assoc, hp, hq, Option.map_map]
  congr 1
  funext vs
  show ts ++ (us ++ vs.map (shiftT q.length)).map (shiftT p.length) = _
  rw [List.map_append, shiftT_comp, List.length_append, List.append_assoc]
/-- All of a hook's text ahead of its body. -/
def preH (f : Bool) (r : List UInt8) : List UInt8 := opensL ++ writeJ r ++ statL ++ wordL f ++ bodyL
theorem preH_eq (f : Bool) (r : List UInt8) : preH f r = ((((((((([123] ++ (34 :: (writeJ tRec ++ [34]))) ++ [58]) ++ (34 :: (writeJ r ++ [34]))) ++ [44]) ++ (34 :: (writeJ tStat ++ [34]))) ++ [58]) ++ (34 :: (writeJ (wordL f) ++ [34]))) ++ [44]) ++ (34 :: (writeJ tBody ++ [34]))) ++ [58] := by
  have e1 : writeJ tRec = tRec := by rfl
  have e2 : writeJ tStat = tStat := by rfl
  have e3 : writeJ tBody = tBody := by rfl
  have e4 : writeJ (wordL f) = wordL f := by cases f <;> rfl
  rw [e1, e2, e3, e4]
  unfold preH opensL statL bodyL tRec tStat tBody
  simp
theorem pre_hook (f : Bool) {r : List UInt8} (hr : joined (runes r) = r) : ∃ a0 b0 a1 b1 a2 b2 a3 b3 a4 b4 a5 b5 a6 b6 a7 b7 a8 b8 a9 b9 a10 b10 : Nat, Pre (preH f r) [⟨123, [], a0, b0⟩, ⟨34, tRec, a1, b1⟩, ⟨58, [], a2, b2⟩, ⟨34, r, a3, b3⟩, ⟨44, [], a4, b4⟩, ⟨34, tStat, a5, b5⟩, ⟨58, [], a6, b6⟩, ⟨34, wordL f, a7, b7⟩, ⟨44, [], a8, b8⟩, ⟨34, tBody, a9, b9⟩, ⟨58, [], a10, b10⟩] ∧ b10 = (preH f r).length := by
  have j1 : joined (runes tRec) = tRec := by rfl
  have j2 : joined (runes tStat) = tStat := by rfl
  have j3 : joined (runes tBody) = tBody := by rfl
  have j4 : joined (runes (wordL f)) = wordL f := by cases f <;> rfl
  have m1 := pre_mark (c := 123) (by decide)
  have m2 := pre_mark (c := 58) (by decide)
  have m3 := pre_mark (c := 44) (by decide)
  have h := (((((((((m1.append (pre_str j1)).append m2).append (pre_str hr)).append m3).append (pre_str j2)).append m2).append (pre_str j4)).append m3).append (pre_str j3)).append m2
  rw [← preH_eq] at h
  simp only [List.map_cons, List.map_nil, shiftT, List.singleton_append, List.cons_append, List.nil_append] at h
  refine ⟨_, _, _, _, _, _, _, _, _, _, _, _, _, _, _, _, _, _, _, _, _, _, h, ?_⟩
  rw [preH_eq]
  simp
  try omega
theorem hookL_pre (f : Bool) (r b : List UInt8) : hookL f r b = preH f r ++ (b ++ [125]) := by
  unfold hookL preH; rw [List.append_assoc]
theorem val_str {W : List Tok} {f k a b : Nat} {t : List UInt8} (h : W[k]? = some ⟨34, t, a, b⟩) : valI (f + 1) W k = some (.mk 34 t [] [], k + 1) := by
  rw [valI_at h, if_pos (.inl rfl)]
theorem elems_comma {val : Nat → Option (Node × Nat)} {ts : List Tok} {E g k k2 : Nat} {ks : List (List UInt8)} {ns : List Node} {n : Node} (h1 : isK ts k 34 = true) (h2 : isK ts (k + 1) 58 = true) (hv : val (k + 2) = some (n, k2)) (h3 : isK ts k2 E = false) (h4 : isK ts k2 44 = true) :
    elems val ts true E (g + 1) k ks ns = elems val ts true E g (k2 + 1) (ks ++ [txt ts k]) (ns ++ [n]) := by
  rw [elems, if_neg (fun x => x.2 ⟨h1, h2⟩), if_pos rfl, hv]
  dsimp only
  rw [if_neg (by rw [h3]; decide), if_pos h4, if_pos rfl]
theorem elems_last {val : Nat → Option (Node × Nat)} {ts : List Tok} {E g k k2 : Nat} {ks : List (List UInt8)} {ns : List Node} {n : Node} (h1 : isK ts k 34 = true) (h2 : isK ts (k + 1) 58 = true) (hv : val (k + 2) = some (n, k2)) (h3 : isK ts k2 E = true) :
    elems val ts true E (g + 1) k ks ns = some (ks ++ [txt ts k], ns ++ [n], k2 + 1) := by
  rw [elems, if_neg (fun x => x.2 ⟨h1, h2⟩), if_pos rfl, hv]
  dsimp only
  rw [if_pos h3, if_pos rfl]
/-- What is written of a hook, as a tree. -/
def hookN (f : Bool) (r : List UInt8) (n : Node) : Node := .mk 123 [] [tRec, tStat, tBody] [.mk 34 r [] [], .mk 34 (wordL f) [] [], n]
/-- The tokens of a hook's text, and its tree. -/
theorem hook_read (f : Bool) {r b : List UInt8} {n : Node} {ts : List Tok} (hr : joined (runes r) = r) (ht : toks b = some ts) (hv : val ts = some (n, ts.length)) (hd : deepN n < 32) :
    (∃ (a0 b0 a1 b1 a2 b2 a3 b3 a4 b4 a5 b5 a6 b6 a7 b7 a8 b8 a9 b9 a10 b10 : Nat) (us : List Tok) (z : Tok), us = ts.map (shiftT (preH f r).length) ∧ z.kind = 125 ∧ b10 = (preH f r).length ∧ toks (hookL f r b) = some ([⟨123, [], a0, b0⟩, ⟨34, tRec, a1, b1⟩, ⟨58, [], a2, b2⟩, ⟨34, r, a3, b3⟩, ⟨44, [], a4, b4⟩, ⟨34, tStat, a5, b5⟩, ⟨58, [], a6, b6⟩, ⟨34, wordL f, a7, b7⟩, ⟨44, [], a8, b8⟩, ⟨34, tBody, a9, b9⟩, ⟨58, [], a10, b10⟩] ++ us ++ [z])) ∧ parseJ (hookL f r b) = .ok (hookN f r n) := by
  obtain ⟨a0, b0, a1, b1, a2, b2, a3, b3, a4, b4, a5, b5, a6, b6, a7, b7, a8, b8, a9, b9, a10, b10, hP, hb10⟩ := pre_hook f hr
  have h1 : toks (b ++ [125]) = some (ts ++ [⟨125, [], b.length, b.length + 1⟩]) := by
    rw [toks_app (by decide) ht, toks_mark (by decide)]; rfl
  have h2 : toks (hookL f r b) = some ([⟨123, [], a0, b0⟩, ⟨34, tRec, a1, b1⟩, ⟨58, [], a2, b2⟩, ⟨34, r, a3, b3⟩, ⟨44, [], a4, b4⟩, ⟨34, tStat, a5, b5⟩, ⟨58, [], a6, b6⟩, ⟨34, wordL f, a7, b7⟩, ⟨44, [], a8, b8⟩, ⟨34, tBody, a9, b9⟩, ⟨58, [], a10, b10⟩] ++ ts.map (shiftT (preH f r).length) ++ [shiftT (preH f r).length ⟨125, [], b.length, b.length + 1⟩]) := by
    rw [hookL_pre, hP, h1]
    simp
  obtain ⟨us, hus⟩ : ∃ us, us = ts.map (shiftT (preH f r).length) := ⟨_, rfl⟩
  obtain ⟨z, hz⟩ : ∃ z, z = shiftT (preH f r).length ⟨125, [], b.length, b.length + 1⟩ := ⟨_, rfl⟩
  rw [← hus, ← hz] at h2
  have hzk : z.kind = 125 := by rw [hz]; rfl
  refine ⟨⟨a0, b0, a1, b1, a2, b2, a3, b3, a4, b4, a5, b5, a6, b6, a7, b7, a8, b8, a9, b9, a10, b10, us, z, hus, hzk, hb10, h2⟩, ?_⟩
  have hlen : us.length = ts.length := by rw [hus, List.length_map]
  have hvu : valI (ts.length + 1) us 0 = some (n, us.length) := by
    rw [hus, val_shift (shiftT (preH f r).length) (fun t => ⟨rfl, rfl⟩), List.length_map]; exact hv
  obtain ⟨pre, hpre⟩ : ∃ pre : List Tok, pre = [⟨123, [], a0, b0⟩, ⟨34, tRec, a1, b1⟩, ⟨58, [], a2, b2⟩, ⟨34, r, a3, b3⟩, ⟨44, [], a4, b4⟩, ⟨34, tStat, a5, b5⟩, ⟨58, [], a6, b6⟩, ⟨34, wordL f, a7, b7⟩, ⟨44, [], a8, b8⟩, ⟨34, tBody, a9, b9⟩, ⟨58, [], a10, b10⟩] := ⟨_, rfl⟩
  have hpl : pre.length = 11 := by rw [hpre]; rfl
  have hx := val_ext (pre := pre) (post := [z]) _ _ _ _ hvu
  rw [hpl, Nat.add_zero] at hx
  rw [← hpre] at h2
  obtain ⟨W, hW⟩ : ∃ W, pre ++ us ++ [z] = W := ⟨_, rfl⟩
  rw [hW] at hx h2
  have hWl : W.length = us.length + 12 := by rw [← hW]; simp [hpl]; omega
  have hWi : ∀ i, i < 11 → W[i]? = pre[i]? := fun i hi => by rw [← hW, List.append_assoc, List.getElem?_append_left (by omega)]
  have hK : ∀ i c, i < 11 → isK W i c = isK pre i c := fun i c hi => by unfold isK; rw [hWi i hi]
  have hT : ∀ i, i < 11 → txt W i = txt pre i := fun i hi => by unfold txt; rw [hWi i hi]
  have hWz : isK W (11 + us.length) 125 = true := by
    unfold isK; rw [← hW, List.getElem?_append_right (by simp [hpl])]; simp [hpl, hzk]
  have hxx : valI W.length W 11 = some (n, 11 + us.length) := val_up (ts.length + 1) _ _ _ _ (by omega) hx
  obtain ⟨g, hg⟩ : ∃ g, W.length = g + 1 + 1 + 1 := ⟨W.length - 3, by omega⟩
  have w0 : W[0]? = some ⟨123, [], a0, b0⟩ := by rw [hWi 0 (by omega), hpre]; rfl
  have w3 : W[3]? = some ⟨34, r, a3, b3⟩ := by rw [hWi 3 (by omega), hpre]; rfl
  have w7 : W[7]? = some ⟨34, wordL f, a7, b7⟩ := by rw [hWi 7 (by omega), hpre]; rfl
  have v3 : valI W.length W 3 = some (.mk 34 r [] [], 4) := by rw [hg]; exact val_str w3
  have v7 : valI W.length W 7 = some (.mk 34 (wordL f) [] [], 8) := by rw [hg]; exact val_str w7
  have kk : ∀ i c v, i < 11 → isK pre i c = v → isK W i c = v := fun i c v hi h => (hK i c hi).trans h
  have he : elems (fun j => valI W.length W j) W true 125 W.length 1 [] [] = some ([tRec, tStat, tBody], [.mk 34 r [] [], .mk 34 (wordL f) [] [], n], W.length) := by
    rw [show elems (fun j => valI W.length W j) W true 125 W.length 1 [] [] = elems (fun j => valI W.length W j) W true 125 (g + 1 + 1 + 1) 1 [] [] from by rw [← hg]]
    rw [elems_comma (k2 := 4) (kk 1 34 true (by omega) (by rw [hpre]; rfl)) (kk 2 58 true (by omega) (by rw [hpre]; rfl)) v3 (kk 4 125 false (by omega) (by rw [hpre]; rfl)) (kk 4 44 true (by omega) (by rw [hpre]; rfl))]
    rw [elems_comma (k2 := 8) (kk 5 34 true (by omega) (by rw [hpre]; rfl)) (kk 6 58 true (by omega) (by rw [hpre]; rfl)) v7 (kk 8 125 false (by omega) (by rw [hpre]; rfl)) (kk 8 44 true (by omega) (by rw [hpre]; rfl))]
    rw [elems_last (k2 := 11 + us.length) (kk 9 34 true (by omega) (by rw [hpre]; rfl)) (kk 10 58 true (by omega) (by rw [hpre]; rfl)) hxx hWz]
    rw [hT 1 (by omega), hT 5 (by omega), hT 9 (by omega), hpre]
    simp only [txt, List.getElem?_cons_succ, List.getElem?_cons_zero, List.nil_append, List.cons_append, Option.some.injEq, Prod.mk.injEq, true_and]
    omega
  have hvW : val W = some (hookN f r n, W.length) := by
    unfold val
    rw [valI_at w0, if_neg (show ¬ ((123 : Nat) = 34 ∨ (123 : Nat) = 48 ∨ (123 : Nat) = 97) from by decide), if_neg (show ¬ ((123 : Nat) ≠ 91 ∧ (123 : Nat) ≠ 123) from by decide)]
    rw [if_neg (show ¬ isK W (0 + 1) (if (⟨123, [], a0, b0⟩ : Tok).kind = 123 then 125 else 93) = true from by
      rw [show isK W (0 + 1) (if (⟨123, [], a0, b0⟩ : Tok).kind = 123 then 125 else 93) = false from kk 1 125 false (by omega) (by rw [hpre]; rfl)]; decide)]
    rw [show elems (fun j => valI W.length W j) W (decide ((⟨123, [], a0, b0⟩ : Tok).kind = 123)) (if (⟨123, [], a0, b0⟩ : Tok).kind = 123 then 125 else 93) W.length (0 + 1) [] [] = _ from he]
    rfl
  unfold parseJ
  rw [h2]
  dsimp only
  rw [hvW]
  dsimp only
  rw [if_pos rfl, if_neg (by simp [hookN, deepN, deepL]; omega)]
theorem parse_inv {b : List UInt8} {n : Node} (h : parseJ b = .ok n) : ∃ ts, toks b = some ts ∧ val ts = some (n, ts.length) ∧ deepN n ≤ 32 := by
  unfold parseJ at h
  split at h
  · cases h
  · rename_i ts htk
    split at h
    · cases h
    · rename_i m k hv
      split at h
      · rename_i hk
        split at h
        · cases h
        · rename_i hd
          cases h
          subst hk
          exact ⟨ts, htk, hv, by omega⟩
      · cases h
theorem hook_parse (f : Bool) {r b : List UInt8} {n : Node} (hr : clean r = r) (hp : parseJ b = .ok n) (hd : deepN n < 32) : parseJ (hookL f r b) = .ok (hookN f r n) := by
  obtain ⟨ts, h1, h2, _⟩ := parse_inv hp
  exact (hook_read f (joined_good _ _ (Nat.le_refl _) (by rw [← hr]; exact clean_good r)) h1 h2 hd).2
end Go.Proofs.Ytdfnlcigbmiafaa

/- Walks: the law WebhookDeep (chapter 37). -/
namespace Go.Proofs.Ytdfnlcigbmiafaa
open Go.RowKit
set_option linter.unusedVariables false
set_option linter.unusedSimpArgs false
set_option linter.constructorNameAsVariable false
/-- A body so deep. -/
def bodyD (k : Nat) : List UInt8 := if k = 0 then [49] else rowsT k
theorem errJ_one : errJ [49] = 0 := by decide +kernel
theorem errJ_one2 : errJ [91, 49, 93] = 0 := by decide +kernel
theorem deep_hook (k : Nat) : (32 ≤ k ∧ hookE [] (bodyD k) = 8) ∨ (k < 32 ∧ hookE [] (bodyD k) = 0 ∧ ∃ n, parseJ (hookL false [] (bodyD k)) = .ok n) := by
  obtain ⟨n, hsz, hn, _⟩ := parse_two (bodyD k)
  have key : (32 ≤ k ∧ hookE [] (bodyD k) = 8) ∨ (k < 32 ∧ hookE [] (bodyD k) = 0) := by
    cases k with
    | zero => right; exact ⟨by omega, by unfold hookE bodyD; rw [if_pos rfl, if_neg (fun x => by rcases x with x | x; exact x rfl; rw [errJ_one] at x; revert x; decide), if_pos (show errJ (91 :: [49] ++ [93]) = 0 from errJ_one2)]⟩
    | succ k =>
      have hb : bodyD (k + 1) = rowsT (k + 1) := if_neg (by omega)
      have hc := hook_cases [] (bodyD (k + 1)) n hn
      rw [hb] at hc hn ⊢
      rcases parse_rows k with ⟨h1, h2⟩ | ⟨h1, m, h2, h3⟩
      · have e := errJ_err h2
        left
        refine ⟨by omega, ?_⟩
        rcases hc with h | h | h | h | h
        · exact absurd rfl h.1
        · rw [e] at h; exact absurd h.2.1 (by decide)
        · exact h.2.2.2
        · exact h.2.2.2.2
        · rw [e] at h; exact absurd h.2.1 (by decide)
      · have e := errJ_ok h2
        have hnm := hn e
        rw [h2] at hnm
        cases hnm
        rcases hc with h | h | h | h | h
        · exact absurd rfl h.1
        · rw [e] at h; exact absurd h.2.1 (by decide)
        · rw [e] at h; exact absurd h.2.1 (by decide)
        · left; exact ⟨by omega, h.2.2.2.2⟩
        · right; exact ⟨by omega, h.2.2.2.2⟩
  rcases key with h | ⟨h1, h2⟩
  · exact .inl h
  · refine .inr ⟨h1, h2, ?_⟩
    rcases hook_cases [] (bodyD k) n hn with h | h | h | h | h
    · exact absurd rfl h.1
    · rw [h2] at h; exact absurd h.2.2 (by decide)
    · rw [h2] at h; exact absurd h.2.2.2 (by decide)
    · rw [h2] at h; exact absurd h.2.2.2.2 (by decide)
    · exact ⟨_, hook_parse false rfl (hn h.2.1) h.2.2.1⟩
theorem bodyD_len (k : Nat) : (bodyD k).length ≤ 2 * k + 1 := by
  unfold bodyD
  split
  · simp
  · unfold rowsT; rw [List.length_append, List.length_replicate, List.length_replicate]; omega
theorem strOf_app37 (a b : List UInt8) : strOf a ++ strOf b = strOf (a ++ b) := by simp [strOf, ByteArray.mk_append_mk]
set_option maxRecDepth 100000 in
set_option maxHeartbeats 4000000 in
theorem lawDeep37 (N : Nat) (w : World) (hN : N < 256) :
    Calls Try.prog 4 #[.int .u8 N] w fun e w' => e = .returned (.bool true) ∧ Below w.heap.size w w' := by
  obtain ⟨k, hk⟩ : ∃ k, k = N % 40 := ⟨_, rfl⟩
  have hk40 : k < 40 := by omega
  have hmod : ((N : Nat) : Int) % 40 = (k : Int) := by omega
  have htmod : Int.tmod ((N : Nat) : Int) 40 = (k : Int) := by rw [Int.tmod_eq_emod_of_nonneg (by omega)]; exact hmod
  have hn0 : ({ data := #[] } : ByteArray) = strOf [] := rfl
  have HA := Lib.hid awake37_any
  have hlD := bodyD_len k
  have hXs : (strOf (bodyD k)).size ≤ 1000 := by rw [strOf_size]; omega
  have HBl := Lib.hid (fun w => wbuild_any false ⟨#[]⟩ (strOf (bodyD k)) w (by decide) hXs)
  rw [strOf_list] at HBl
  have hde : (32 ≤ k ∧ hookE [] (bodyD k) = 8 ∧ hookT false [] (bodyD k) = ⟨#[]⟩) ∨ (k < 32 ∧ hookE [] (bodyD k) = 0 ∧ ∀ w, Calls Try.prog 12 #[.string (hookT false [] (bodyD k))] w fun e w' => (∃ va vb vc vd : Value, e = .returned (.tuple #[.agg #[va, vb, vc, vd], .int .i64 0]) ∧ ∃ n, NodeW w' (fun g => w.heap.size ≤ g) n (.agg #[va, vb, vc, vd])) ∧ Below w.heap.size w w') := by
    rcases deep_hook k with ⟨h1, h2⟩ | ⟨h1, h2, n, h3⟩
    · exact .inl ⟨h1, h2, hookT_no (by rw [h2]; decide)⟩
    · refine .inr ⟨h1, h2, fun w => ?_⟩
      rw [hookT_ok h2]
      have hll : (hookL false [] (bodyD k)).length ≤ 1000 := by
        unfold hookL opensL statL bodyL wordL
        simp only [List.length_append, List.length_cons, List.length_nil, show (writeJ []).length = 0 from rfl]
        simp; omega
      refine (rparse_any (strOf (hookL false [] (bodyD k))) w (by rw [strOf_size]; omega)).mono fun e w' h => ⟨?_, h.2⟩
      have hp := h.1
      rw [strOf_list, h3] at hp
      obtain ⟨a, b, c, d, h4, h5⟩ := hp
      exact ⟨a, b, c, d, h4, n, h5⟩
  have HDe := Lib.hid hde
  have HBl2 : Hid (∀ w, Calls Try.prog 8 #[.agg #[.bool false, .string ⟨#[]⟩, .string (strOf (bodyD k))]] w fun e w' => e = .returned (.tuple #[.string (hookT false [] (bodyD k)), .int .i64 (hookE [] (bodyD k))]) ∧ Below w.heap.size w w') := HBl
  clear hk hde HBl hlD
  generalize hookE [] (bodyD k) = E at *
  generalize hookT false [] (bodyD k) = HT at *
  have HX0 : Hid (k = 0 → ({ data := #[49] } : ByteArray) ++ strOf (List.replicate k 93) = strOf (bodyD k)) := fun h => by subst h; rfl
  have HX1 : Hid (k ≠ 0 → strOf (List.replicate k 91) ++ strOf (List.replicate k 93) = strOf (bodyD k)) := fun h => by unfold bodyD rowsT; rw [if_neg h]; exact strOf_app37 _ _
  have hzr : ∀ (j : Nat) (c : UInt8), (strOf (List.replicate j c)).size = j := fun j c => by rw [strOf_size, List.length_replicate]
  generalize strOf (bodyD k) = X at *
  have h91 : ∀ j, strOf (List.replicate j 91) ++ ({ data := #[91] } : ByteArray) = strOf (List.replicate (j + 1) 91) := fun j => by rw [List.replicate_succ']; exact strOf_app37 _ [91]
  have h93 : ∀ j, strOf (List.replicate j 93) ++ ({ data := #[93] } : ByteArray) = strOf (List.replicate (j + 1) 93) := fun j => by rw [List.replicate_succ']; exact strOf_app37 _ [93]
  go_enter Try.func4, Try.ntmps4
  clear hn0
  go_wp2_with fail
  go_loopw [3, 4, 6] (fun s h z wr => ∃ i : Nat, z = .int .i64 i ∧ i ≤ k ∧ s = .string (strOf (List.replicate i 91)) ∧ h = .string (strOf (List.replicate i 93)) ∧ wr = w) (fun _ _ z _ => k - (intOf z).toNat)
  case atStart => exact ⟨0, rfl, Nat.zero_le _, rfl, rfl, rfl⟩
  case round =>
    obtain ⟨i, rfl, hik, rfl, rfl, rfl⟩ := hrel
    have z1 := hzr i 91
    have z2 := hzr i 93
    by_cases hlt : i < k
    · go_wp2_with fail
      go_roundw
      case rel => exact ⟨i + 1, by go_num, hlt, rfl, rfl, by trivial⟩
      case measure => simp [intOf]; omega
    · obtain rfl : i = k := by omega
      clear h91 h93 hzr hmod htmod hlt hik
      have HX0' := Lib.hid HX0.out
      have HX1' := Lib.hid HX1.out
      clear HX0 HX1
      generalize strOf (List.replicate i 91) = S1 at *
      generalize strOf (List.replicate i 93) = S2 at *
      have z1 : S1.size ≤ 40 := by omega
      have z2 : S2.size ≤ 40 := by omega
      by_cases hk0 : i = 0
      · have hXX := HX0'.out hk0
        have HDe2 := Lib.hid HDe.out
        have hki : ((i : Int) == 0) = true := by simp [hk0]
        rcases HDe.out with ⟨h1, _⟩ | ⟨h1, hE, hPr⟩
        · omega
        · have HPr := Lib.hid hPr
          subst hE
          clear hPr HDe HDe2 HX0' HX1' hk0
          go_wp2_with fail
          refine (HBl2.out _).mono ?_
          rintro e w2 ⟨rfl, b2⟩
          go_wp2_with fail
          refine (HPr.out _).mono ?_
          rintro e w3 ⟨⟨va, vb, vc, vd, rfl, n, hn⟩, b3⟩
          obtain ⟨v1, v2, v3, v4, v5, v6, v7, v8, rfl, rfl, rfl, rfl⟩ := node_shape hn
          have HB3 := Lib.hid ((b2.trans (b3.mono b2.size)).alloc (b2.trans (b3.mono b2.size)).size (.cells #[.int .u8 v1, .string v2, .slice v3 v4 v5, .slice v6 v7 v8] 34))
          clear hn b2 b3
          go_wp2_with fail
          refine (HA.out _).mono ?_
          rintro e w4 ⟨rfl, b4⟩
          go_wp2_with fail
          go_ret
          exact ⟨rfl, HB3.out.trans (b4.mono HB3.out.size)⟩
      · have hXX := HX1'.out hk0
        have hki : ((i : Int) == 0) = false := by simp; omega
        rcases HDe.out with ⟨h1, hE, hT⟩ | ⟨h1, hE, hPr⟩
        · subst hE
          subst hT
          have hnil : (({ data := #[] } : ByteArray).toList == ({ data := #[] } : ByteArray).toList) = true := by simp
          clear HDe HX0' HX1' hk0
          go_wp2_with fail
          refine (HBl2.out _).mono ?_
          rintro e w2 ⟨rfl, b2⟩
          go_wp2_with fail
          refine (HA.out _).mono ?_
          rintro e w4 ⟨rfl, b4⟩
          go_wp2_with fail
          go_ret
          exact ⟨rfl, b2.trans (b4.mono b2.size)⟩
        · have HPr := Lib.hid hPr
          subst hE
          clear hPr HDe HX0' HX1' hk0
          go_wp2_with fail
          refine (HBl2.out _).mono ?_
          rintro e w2 ⟨rfl, b2⟩
          go_wp2_with fail
          refine (HPr.out _).mono ?_
          rintro e w3 ⟨⟨va, vb, vc, vd, rfl, n, hn⟩, b3⟩
          obtain ⟨v1, v2, v3, v4, v5, v6, v7, v8, rfl, rfl, rfl, rfl⟩ := node_shape hn
          have HB3 := Lib.hid ((b2.trans (b3.mono b2.size)).alloc (b2.trans (b3.mono b2.size)).size (.cells #[.int .u8 v1, .string v2, .slice v3 v4 v5, .slice v6 v7 v8] 34))
          clear hn b2 b3
          go_wp2_with fail
          refine (HA.out _).mono ?_
          rintro e w4 ⟨rfl, b4⟩
          go_wp2_with fail
          go_ret
          exact ⟨rfl, HB3.out.trans (b4.mono HB3.out.size)⟩
end Go.Proofs.Ytdfnlcigbmiafaa
