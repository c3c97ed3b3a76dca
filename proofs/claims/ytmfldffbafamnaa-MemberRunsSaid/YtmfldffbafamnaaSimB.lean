/- Plain: the two ways to read an escape agree. -/
import Derived.Test.YtmfldffbafamnaaRfD
namespace Go.Proofs.Ytmfldffbafamnaa
set_option linter.unusedVariables false
set_option linter.unusedSimpArgs false
theorem bt_left {p : List UInt8} {c : UInt8} {i : Nat} (h : i < p.length) : bt (p ++ [c]) i = bt p i := by
  unfold bt
  rw [List.getD_eq_getElem?_getD, List.getD_eq_getElem?_getD, List.getElem?_append_left h]
theorem bt_last (p : List UInt8) (c : UInt8) : bt (p ++ [c]) p.length = c.toNat := by
  unfold bt
  rw [List.getD_eq_getElem?_getD, List.getElem?_append_right (Nat.le_refl _)]
  simp
theorem okB_left {p : List UInt8} {c : UInt8} {i : Nat} (h : i < p.length) : okB (p ++ [c]) i = okB p i := by
  unfold okB
  by_cases h6 : i = 6
  · subst h6; rw [if_pos rfl, if_pos rfl, bt_left h]
  by_cases h7 : i = 7
  · subst h7; rw [if_neg h6, if_neg h6, if_pos rfl, if_pos rfl, bt_left h]
  · rw [if_neg h6, if_neg h6, if_neg h7, if_neg h7, bt_left h]
theorem allB_iff {s : List UInt8} {k : Nat} : allB s k = true ↔ ∀ i, k ≤ i → i < s.length → okB s i = true := by
  unfold allB
  rw [List.all_eq_true]
  constructor
  · intro h i h1 h2
    exact h i (by rw [List.mem_range'_1]; omega)
  · intro h i hi
    rw [List.mem_range'_1] at hi
    exact h i (by omega) (by omega)
theorem allB_snoc {p : List UInt8} {c : UInt8} (h : 2 ≤ p.length) : allB (p ++ [c]) 2 = (allB p 2 && okB (p ++ [c]) p.length) := by
  rw [Bool.eq_iff_iff, Bool.and_eq_true, allB_iff, allB_iff]
  constructor
  · intro hh
    refine ⟨fun i h1 h2 => ?_, hh _ h (by simp)⟩
    rw [← okB_left (c := c) h2]
    exact hh i h1 (by simp; omega)
  · rintro ⟨h1, h2⟩ i h3 h4
    simp at h4
    by_cases e : i = p.length
    · rw [e]; exact h2
    · rw [okB_left (by omega)]; exact h1 i h3 (by omega)
theorem hexB_iff {c : Nat} : hexB c = true ↔ ((48 ≤ c ∧ c ≤ 57) ∨ (65 ≤ c ∧ c ≤ 70) ∨ (97 ≤ c ∧ c ≤ 102)) := by
  unfold hexB; exact decide_eq_true_iff
theorem dB_hex {c : Nat} (h : dB c = true) : hexB c = true := by
  unfold dB at h
  rw [hexB_iff]
  simp only [Bool.or_eq_true, beq_iff_eq] at h
  omega
theorem cfB_hex {c : Nat} (h : cfB c = true) : hexB c = true := by
  unfold cfB at h
  rw [hexB_iff]
  simp only [decide_eq_true_eq] at h
  omega
theorem hi_iff {c : Nat} (h : hexB c = true) (hc : cfB c = false) : hiB c = !decide (c < 56) := by
  rw [hexB_iff] at h
  unfold cfB at hc
  unfold hiB
  simp only [decide_eq_false_iff_not] at hc
  rw [Bool.eq_iff_iff]
  simp only [Bool.or_eq_true, beq_iff_eq, Bool.not_eq_true', decide_eq_false_iff_not]
  omega
/-- What was read of an escape that goes on. -/
def EscV (p : List UInt8) : Prop := p = [] ∨ escR p = (true, false)
/-- What a beginning that is not whole tells. -/
theorem esc_facts {p : List UInt8} (h : escR p = (true, false)) (hl : 2 ≤ p.length) :
    bt p 1 = 117 ∧ p.length ≤ 11 ∧ allB p 2 = true ∧ escBad1 p = false ∧ escBad2 p = false ∧ (p.length = 6 → escHigh p = true) := by
  unfold escR at h
  rw [if_neg (by omega)] at h
  split at h
  · cases h
  split at h
  · cases h
  rename_i h1
  split at h
  · cases h
  rename_i h2
  split at h
  · cases h
  rename_i h3
  split at h
  · cases h
  rename_i h4
  simp only [Prod.mk.injEq, true_and, Bool.or_eq_false_iff] at h
  obtain ⟨h5, h6⟩ := h
  have h12 : p.length ≠ 12 := by simpa using h6
  refine ⟨by omega, by omega, by simpa using h2, by simpa using h3, by simpa using h4, fun e => ?_⟩
  rw [e] at h5
  simpa using h5
theorem esc_sim {p : List UInt8} {c : UInt8} (hp : EscV p) (h : p ≠ [] ∨ c.toNat = 92) :
    (escS p c).2 = (escR (p ++ [c])).1 ∧ ((escS p c).2 = true → (escS p c).1 = (if (escR (p ++ [c])).2 = true then [] else p ++ [c])) ∧ ((escS p c).2 = true → EscV (escS p c).1) := by
  have hlen : (p ++ [c]).length = p.length + 1 := by simp
  have key : ∀ (b w : Bool), (escS p c).2 = b → (b = true → escR (p ++ [c]) = (true, w)) → (b = false → (escR (p ++ [c])).1 = false) → (b = true → (escS p c).1 = if w = true then [] else p ++ [c]) →
      (escS p c).2 = (escR (p ++ [c])).1 ∧ ((escS p c).2 = true → (escS p c).1 = (if (escR (p ++ [c])).2 = true then [] else p ++ [c])) ∧ ((escS p c).2 = true → EscV (escS p c).1) := by
    intro b w h1 h2 h3 h4
    rw [h1]
    cases b
    · exact ⟨(h3 rfl).symm, fun e => (by cases e), fun e => (by cases e)⟩
    · have e := h2 rfl
      rw [e]
      refine ⟨rfl, fun _ => h4 rfl, fun _ => ?_⟩
      rw [h4 rfl]
      cases w
      · exact Or.inr e
      · exact Or.inl rfl
  rcases Nat.lt_or_ge p.length 2 with hs | hl2
  · have h01 : p.length = 0 ∨ p.length = 1 := by omega
    rcases h01 with h0 | h1
    · refine key true false ?_ (fun _ => ?_) (fun e => (by cases e)) (fun _ => ?_)
      · unfold escS; dsimp only; rw [if_pos h0]
      · unfold escR; rw [if_pos (by omega)]
      · unfold escS; dsimp only; rw [if_pos h0]; rfl
    · have eS : escS p c = if c.toNat = 117 then (p ++ [c], true) else ([], decide (c ∈ wl)) := by
        unfold escS; dsimp only; rw [if_neg (by omega), if_pos h1]
      have hb1 : bt (p ++ [c]) 1 = c.toNat := by have := bt_last p c; rwa [h1] at this
      have hmem : decide (c ∈ wl) = oneS wl c.toNat := by
        rw [Bool.eq_iff_iff]
        unfold oneS
        rw [decide_eq_true_eq, List.any_eq_true]
        constructor
        · intro hm; exact ⟨c, hm, by simp⟩
        · rintro ⟨x, hx, hxe⟩
          have : x = c := UInt8.toNat.inj (by simpa using hxe)
          rwa [← this]
      have eR : escR (p ++ [c]) = if oneS wl c.toNat = true then (true, true) else if c.toNat ≠ 117 then (false, false) else (true, false) := by
        have ha : allB (p ++ [c]) 2 = true := allB_end (by omega)
        have hb : escBad1 (p ++ [c]) = false := by unfold escBad1 halfB; rw [decide_eq_false (by omega : ¬ 3 ≤ (p ++ [c]).length)]; rfl
        have hc : escBad2 (p ++ [c]) = false := by
          unfold escBad2
          rw [decide_eq_false (by omega : ¬ 6 < (p ++ [c]).length), decide_eq_false (by omega : ¬ 8 < (p ++ [c]).length), decide_eq_false (by omega : ¬ 9 < (p ++ [c]).length)]; rfl
        unfold escR
        rw [if_neg (by omega), hb1, ha, hb, hc]
        by_cases ho : oneS wl c.toNat = true
        · rw [if_pos ⟨by omega, ho⟩, if_pos ho]
        · rw [if_neg (fun e => ho e.2), if_neg ho]
          by_cases h117 : c.toNat ≠ 117
          · rw [if_pos (Or.inl h117), if_pos h117]
          · rw [if_neg (by omega), if_neg h117, hlen, h1]; rfl
      by_cases h117 : c.toNat = 117
      · have hn : oneS wl c.toNat = false := by rw [h117]; decide
        refine key true false ?_ (fun _ => ?_) (fun e => (by cases e)) (fun _ => ?_)
        · rw [eS, if_pos h117]
        · rw [eR, hn, if_neg (by decide), if_neg (by omega)]
        · rw [eS, if_pos h117]; rfl
      · cases ho : oneS wl c.toNat
        · refine key false false ?_ (fun e => (by cases e)) (fun _ => ?_) (fun e => (by cases e))
          · rw [eS, if_neg h117, hmem, ho]
          · rw [eR, ho, if_neg (by decide), if_pos h117]
        · refine key true true ?_ (fun _ => ?_) (fun e => (by cases e)) (fun _ => ?_)
          · rw [eS, if_neg h117, hmem, ho]
          · rw [eR, ho, if_pos rfl]
          · rw [eS, if_neg h117]; rfl
  · have hv : escR p = (true, false) := by
      rcases hp with rfl | hp
      · simp at hl2
      · exact hp
    obtain ⟨f1, f2, f3, f4, f5, f6⟩ := esc_facts hv hl2
    have hb1 : bt (p ++ [c]) 1 = 117 := by rw [bt_left (by omega), f1]
    have hlast := bt_last p c
    have hall := allB_snoc (c := c) hl2
    rw [f3, Bool.true_and] at hall
    have eR : escR (p ++ [c]) = if okB (p ++ [c]) p.length = false then (false, false) else if escBad1 (p ++ [c]) = true then (false, false) else if escBad2 (p ++ [c]) = true then (false, false)
        else (true, ((p ++ [c]).length == 6 && !escHigh (p ++ [c])) || (p ++ [c]).length == 12) := by
      unfold escR
      rw [if_neg (by omega), if_neg (by omega), if_neg (by omega), hall]
    have hhalf : 3 ≤ p.length → halfB (p ++ [c]) = halfB p := by
      intro h3; unfold halfB; rw [bt_left (by omega), decide_eq_true (by omega : 3 ≤ (p ++ [c]).length), decide_eq_true h3]
    have hhigh : 4 ≤ p.length → escHigh (p ++ [c]) = escHigh p := by
      intro h4; unfold escHigh; rw [hhalf (by omega), bt_left (by omega), decide_eq_true (by omega : 3 < (p ++ [c]).length), decide_eq_true (by omega : 3 < p.length)]
    have hbad1 : 4 ≤ p.length → escBad1 (p ++ [c]) = false := by
      intro h4
      rw [← f4]
      unfold escBad1; rw [hhalf (by omega), bt_left (by omega), decide_eq_true (by omega : 3 < (p ++ [c]).length), decide_eq_true (by omega : 3 < p.length)]
    have hbad2 : p.length ≤ 5 → escBad2 (p ++ [c]) = false := by
      intro h5
      unfold escBad2
      rw [decide_eq_false (by omega : ¬ 6 < (p ++ [c]).length), decide_eq_false (by omega : ¬ 8 < (p ++ [c]).length), decide_eq_false (by omega : ¬ 9 < (p ++ [c]).length)]; rfl
    have hokx : p.length ≠ 6 → p.length ≠ 7 → okB (p ++ [c]) p.length = hexB c.toNat := by
      intro h6 h7; unfold okB; rw [if_neg h6, if_neg h7, hlast]
    have plain : ∀ (b : Bool), okB (p ++ [c]) p.length = true → escBad1 (p ++ [c]) = false → escBad2 (p ++ [c]) = false → (((p ++ [c]).length == 6 && !escHigh (p ++ [c])) || (p ++ [c]).length == 12) = b → escR (p ++ [c]) = (true, b) := by
      intro b h1 h2 h3 h4; rw [eR, h1, h2, h3, h4]; rfl
    have bad : okB (p ++ [c]) p.length = false → (escR (p ++ [c])).1 = false := by
      intro h1; rw [eR, h1]; rfl
    have notw : p.length ≠ 5 → p.length ≠ 11 → (((p ++ [c]).length == 6 && !escHigh (p ++ [c])) || (p ++ [c]).length == 12) = false := by
      intro h5 h11
      have e1 : ((p ++ [c]).length == 6) = false := by simp; omega
      have e2 : ((p ++ [c]).length == 12) = false := by simp; omega
      rw [e1, e2]; rfl
    have hL : p.length = 2 ∨ p.length = 3 ∨ p.length = 4 ∨ p.length = 5 ∨ p.length = 6 ∨ p.length = 7 ∨ p.length = 8 ∨ p.length = 9 ∨ p.length = 10 ∨ p.length = 11 := by omega
    have eS : escS p c = if p.length = 6 then (p ++ [c], (c.toNat : Int) == 92) else if p.length = 7 then (p ++ [c], (c.toNat : Int) == 117) else if p.length = 8 then (p ++ [c], dB c.toNat)
        else if p.length = 9 then (p ++ [c], cfB c.toNat && hexB c.toNat) else if p.length = 3 then (if halfB (p ++ [c]) && cfB c.toNat then (p ++ [c], false) else (p ++ [c], hexB c.toNat))
        else if p.length = 2 ∨ p.length = 4 ∨ p.length = 10 then (p ++ [c], hexB c.toNat)
        else if p.length = 5 then (if !halfB (p ++ [c]) || decide (bt (p ++ [c]) 3 < 56) then ([], hexB c.toNat) else (p ++ [c], hexB c.toNat)) else ([], hexB c.toNat) := by
      unfold escS; dsimp only; rw [if_neg (by omega), if_neg (by omega)]
    rcases hL with e | e | e | e | e | e | e | e | e | e
    · have hb : escBad1 (p ++ [c]) = false := by unfold escBad1; rw [decide_eq_false (by omega : ¬ 3 < (p ++ [c]).length)]; simp
      have ho := hokx (by omega) (by omega)
      have es : escS p c = (p ++ [c], hexB c.toNat) := by rw [eS, if_neg (by omega), if_neg (by omega), if_neg (by omega), if_neg (by omega), if_neg (by omega), if_pos (by omega)]
      refine key (hexB c.toNat) false (by rw [es]) (fun hx => ?_) (fun hx => ?_) (fun _ => by rw [es]; rfl)
      · exact plain false (by rw [ho, hx]) hb (hbad2 (by omega)) (notw (by omega) (by omega))
      · exact bad (by rw [ho, hx])
    · have ho := hokx (by omega) (by omega)
      have hb3 : bt (p ++ [c]) 3 = c.toNat := by rw [← e]; exact hlast
      have hb : escBad1 (p ++ [c]) = (halfB (p ++ [c]) && cfB c.toNat) := by unfold escBad1; rw [decide_eq_true (by omega : 3 < (p ++ [c]).length), hb3, Bool.and_true]
      have es : escS p c = if (halfB (p ++ [c]) && cfB c.toNat) = true then (p ++ [c], false) else (p ++ [c], hexB c.toNat) := by rw [eS, if_neg (by omega), if_neg (by omega), if_neg (by omega), if_neg (by omega), if_pos (by omega)]
      cases hh : (halfB (p ++ [c]) && cfB c.toNat)
      · have es2 : escS p c = (p ++ [c], hexB c.toNat) := by rw [es, hh]; rfl
        refine key (hexB c.toNat) false (by rw [es2]) (fun hx => ?_) (fun hx => ?_) (fun _ => by rw [es2]; rfl)
        · exact plain false (by rw [ho, hx]) (by rw [hb, hh]) (hbad2 (by omega)) (notw (by omega) (by omega))
        · exact bad (by rw [ho, hx])
      · have es2 : escS p c = (p ++ [c], false) := by rw [es, hh]; rfl
        refine key false false (by rw [es2]) (fun hx => (by cases hx)) (fun _ => ?_) (fun hx => (by cases hx))
        rw [eR, hb, hh]
        cases okB (p ++ [c]) p.length <;> rfl
    · have ho := hokx (by omega) (by omega)
      have es : escS p c = (p ++ [c], hexB c.toNat) := by rw [eS, if_neg (by omega), if_neg (by omega), if_neg (by omega), if_neg (by omega), if_neg (by omega), if_pos (by omega)]
      refine key (hexB c.toNat) false (by rw [es]) (fun hx => ?_) (fun hx => ?_) (fun _ => by rw [es]; rfl)
      · exact plain false (by rw [ho, hx]) (hbad1 (by omega)) (hbad2 (by omega)) (notw (by omega) (by omega))
      · exact bad (by rw [ho, hx])
    · have ho := hokx (by omega) (by omega)
      have hx3 : hexB (bt (p ++ [c]) 3) = true := by
        rw [bt_left (by omega)]
        have := allB_iff.1 f3 3 (by omega) (by omega)
        unfold okB at this
        rwa [if_neg (by decide), if_neg (by decide)] at this
      have hhi : escHigh (p ++ [c]) = (halfB (p ++ [c]) && !decide (bt (p ++ [c]) 3 < 56)) := by
        unfold escHigh
        rw [decide_eq_true (by omega : 3 < (p ++ [c]).length), Bool.and_true]
        cases hf : halfB (p ++ [c])
        · rfl
        · have hb := hbad1 (by omega)
          unfold escBad1 at hb
          rw [hf, decide_eq_true (by omega : 3 < (p ++ [c]).length)] at hb
          rw [hi_iff hx3 (by simpa using hb)]
      have hw : (((p ++ [c]).length == 6 && !escHigh (p ++ [c])) || (p ++ [c]).length == 12) = (!halfB (p ++ [c]) || decide (bt (p ++ [c]) 3 < 56)) := by
        have e1 : ((p ++ [c]).length == 6) = true := by simp; omega
        have e2 : ((p ++ [c]).length == 12) = false := by simp; omega
        rw [e1, e2, hhi]
        cases halfB (p ++ [c]) <;> cases decide (bt (p ++ [c]) 3 < 56) <;> rfl
      have es : escS p c = if (!halfB (p ++ [c]) || decide (bt (p ++ [c]) 3 < 56)) = true then ([], hexB c.toNat) else (p ++ [c], hexB c.toNat) := by rw [eS, if_neg (by omega), if_neg (by omega), if_neg (by omega), if_neg (by omega), if_neg (by omega), if_neg (by omega), if_pos (by omega)]
      refine key (hexB c.toNat) (!halfB (p ++ [c]) || decide (bt (p ++ [c]) 3 < 56)) (by rw [es]; split <;> rfl) (fun hx => ?_) (fun hx => ?_) (fun _ => by rw [es]; split <;> rfl)
      · exact plain _ (by rw [ho, hx]) (hbad1 (by omega)) (hbad2 (by omega)) hw
      · exact bad (by rw [ho, hx])
    · have ho : okB (p ++ [c]) p.length = ((c.toNat : Int) == 92) := by
        have hb6 : bt (p ++ [c]) 6 = c.toNat := by rw [← e]; exact hlast
        unfold okB; rw [if_pos e, hb6, Bool.eq_iff_iff]; simp only [beq_iff_eq]; omega
      have hb2 : escBad2 (p ++ [c]) = false := by
        unfold escBad2
        rw [hhigh (by omega), f6 e, decide_eq_false (by omega : ¬ 8 < (p ++ [c]).length), decide_eq_false (by omega : ¬ 9 < (p ++ [c]).length)]; simp
      have es : escS p c = (p ++ [c], (c.toNat : Int) == 92) := by rw [eS, if_pos e]
      refine key ((c.toNat : Int) == 92) false (by rw [es]) (fun hx => ?_) (fun hx => ?_) (fun _ => by rw [es]; rfl)
      · exact plain false (by rw [ho, hx]) (hbad1 (by omega)) hb2 (notw (by omega) (by omega))
      · exact bad (by rw [ho, hx])
    · have hH : escHigh p = true := by
        unfold escBad2 at f5
        rw [decide_eq_true (by omega : 6 < p.length)] at f5
        cases h : escHigh p
        · rw [h] at f5; simp at f5
        · rfl
      have ho : okB (p ++ [c]) p.length = ((c.toNat : Int) == 117) := by
        have hb6 : bt (p ++ [c]) 7 = c.toNat := by rw [← e]; exact hlast
        unfold okB; rw [if_neg (by omega), if_pos e, hb6, Bool.eq_iff_iff]; simp only [beq_iff_eq]; omega
      have hb2 : escBad2 (p ++ [c]) = false := by
        unfold escBad2
        rw [hhigh (by omega), hH, decide_eq_false (by omega : ¬ 8 < (p ++ [c]).length), decide_eq_false (by omega : ¬ 9 < (p ++ [c]).length)]; simp
      have es : escS p c = (p ++ [c], (c.toNat : Int) == 117) := by rw [eS, if_neg (by omega), if_pos e]
      refine key ((c.toNat : Int) == 117) false (by rw [es]) (fun hx => ?_) (fun hx => ?_) (fun _ => by rw [es]; rfl)
      · exact plain false (by rw [ho, hx]) (hbad1 (by omega)) hb2 (notw (by omega) (by omega))
      · exact bad (by rw [ho, hx])
    · have hH : escHigh p = true := by
        unfold escBad2 at f5
        rw [decide_eq_true (by omega : 6 < p.length)] at f5
        cases h : escHigh p
        · rw [h] at f5; simp at f5
        · rfl
      have ho := hokx (by omega) (by omega)
      have hb8 : bt (p ++ [c]) 8 = c.toNat := by rw [← e]; exact hlast
      have hb2 : escBad2 (p ++ [c]) = !dB c.toNat := by
        unfold escBad2
        rw [hhigh (by omega), hH, decide_eq_true (by omega : 8 < (p ++ [c]).length), hb8, decide_eq_false (by omega : ¬ 9 < (p ++ [c]).length)]; simp
      have es : escS p c = (p ++ [c], dB c.toNat) := by rw [eS, if_neg (by omega), if_neg (by omega), if_pos e]
      refine key (dB c.toNat) false (by rw [es]) (fun hx => ?_) (fun hx => ?_) (fun _ => by rw [es]; rfl)
      · exact plain false (by rw [ho, dB_hex hx]) (hbad1 (by omega)) (by rw [hb2, hx]; rfl) (notw (by omega) (by omega))
      · rw [eR, hb2, hx, hbad1 (by omega)]
        cases okB (p ++ [c]) p.length <;> rfl
    · have hH : escHigh p = true := by
        unfold escBad2 at f5
        rw [decide_eq_true (by omega : 6 < p.length)] at f5
        cases h : escHigh p
        · rw [h] at f5; simp at f5
        · rfl
      have hd8 : dB (bt p 8) = true := by
        unfold escBad2 at f5
        rw [decide_eq_true (by omega : 8 < p.length)] at f5
        cases h : dB (bt p 8)
        · rw [h] at f5; simp at f5
        · rfl
      have ho := hokx (by omega) (by omega)
      have hb9 : bt (p ++ [c]) 9 = c.toNat := by rw [← e]; exact hlast
      have hb2 : escBad2 (p ++ [c]) = !cfB c.toNat := by
        unfold escBad2
        rw [hhigh (by omega), hH, bt_left (by omega : 8 < p.length), hd8, hb9, decide_eq_true (by omega : 9 < (p ++ [c]).length)]; simp
      have es : escS p c = (p ++ [c], cfB c.toNat && hexB c.toNat) := by rw [eS, if_neg (by omega), if_neg (by omega), if_neg (by omega), if_pos e]
      have hcf : (cfB c.toNat && hexB c.toNat) = cfB c.toNat := by
        cases h : cfB c.toNat
        · rfl
        · rw [cfB_hex h]; rfl
      refine key (cfB c.toNat) false (by rw [es, hcf]) (fun hx => ?_) (fun hx => ?_) (fun _ => by rw [es]; rfl)
      · exact plain false (by rw [ho, cfB_hex hx]) (hbad1 (by omega)) (by rw [hb2, hx]; rfl) (notw (by omega) (by omega))
      · rw [eR, hb2, hx, hbad1 (by omega)]
        cases okB (p ++ [c]) p.length <;> rfl
    · have ho := hokx (by omega) (by omega)
      have hb2 : escBad2 (p ++ [c]) = false := by
        rw [← f5]
        unfold escBad2
        rw [hhigh (by omega), bt_left (by omega : 8 < p.length), bt_left (by omega : 9 < p.length), decide_eq_true (by omega : 6 < (p ++ [c]).length), decide_eq_true (by omega : 6 < p.length), decide_eq_true (by omega : 8 < (p ++ [c]).length), decide_eq_true (by omega : 8 < p.length), decide_eq_true (by omega : 9 < (p ++ [c]).length), decide_eq_true (by omega : 9 < p.length)]
      have es : escS p c = (p ++ [c], hexB c.toNat) := by rw [eS, if_neg (by omega), if_neg (by omega), if_neg (by omega), if_neg (by omega), if_neg (by omega), if_pos (by omega)]
      refine key (hexB c.toNat) false (by rw [es]) (fun hx => ?_) (fun hx => ?_) (fun _ => by rw [es]; rfl)
      · exact plain false (by rw [ho, hx]) (hbad1 (by omega)) hb2 (notw (by omega) (by omega))
      · exact bad (by rw [ho, hx])
    · have ho := hokx (by omega) (by omega)
      have hb2 : escBad2 (p ++ [c]) = false := by
        rw [← f5]
        unfold escBad2
        rw [hhigh (by omega), bt_left (by omega : 8 < p.length), bt_left (by omega : 9 < p.length), decide_eq_true (by omega : 6 < (p ++ [c]).length), decide_eq_true (by omega : 6 < p.length), decide_eq_true (by omega : 8 < (p ++ [c]).length), decide_eq_true (by omega : 8 < p.length), decide_eq_true (by omega : 9 < (p ++ [c]).length), decide_eq_true (by omega : 9 < p.length)]
      have hw : (((p ++ [c]).length == 6 && !escHigh (p ++ [c])) || (p ++ [c]).length == 12) = true := by
        have e2 : ((p ++ [c]).length == 12) = true := by simp; omega
        rw [e2, Bool.or_true]
      have es : escS p c = ([], hexB c.toNat) := by rw [eS, if_neg (by omega), if_neg (by omega), if_neg (by omega), if_neg (by omega), if_neg (by omega), if_neg (by omega), if_neg (by omega)]
      refine key (hexB c.toNat) true (by rw [es]) (fun hx => ?_) (fun hx => ?_) (fun _ => by rw [es]; rfl)
      · exact plain true (by rw [ho, hx]) (hbad1 (by omega)) hb2 hw
      · exact bad (by rw [ho, hx])
end Go.Proofs.Ytmfldffbafamnaa
