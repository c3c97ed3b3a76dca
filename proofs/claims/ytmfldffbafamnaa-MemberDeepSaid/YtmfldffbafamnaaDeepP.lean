/- Plain: how deep a text may be. -/
import Derived.Test.YtmfldffbafamnaaCjU
namespace Go.Proofs.Ytmfldffbafamnaa
set_option linter.unusedVariables false
set_option linter.unusedSimpArgs false
/-- A map's beginning with a name, and a row's. -/
def opn (b : Bool) : List UInt8 := if b then [123, 34, 97, 34, 58] else [91]
def txt : List Bool → List UInt8
  | [] => []
  | b :: t => txt t ++ opn b
theorem run_app (q : Q) (a b : List UInt8) (h : (runS q a).2 = true) : runS q (a ++ b) = runS (runS q a).1 b := by
  induction a generalizing q with
  | nil => rfl
  | cons c t ih =>
    have e1 : runS q (c :: t) = if (nextS q c).2 = true then runS (nextS q c).1 t else (q, false) := rfl
    have e2 : runS q (c :: t ++ b) = if (nextS q c).2 = true then runS (nextS q c).1 (t ++ b) else (q, false) := rfl
    rw [e1] at h
    rw [e2, e1]
    by_cases e : (nextS q c).2 = true
    · rw [if_pos e] at h ⊢
      rw [if_pos e]; exact ih _ h
    · rw [if_neg e] at h; cases h
theorem run_fail (q : Q) (a b : List UInt8) (h : (runS q a).2 = false) : runS q (a ++ b) = runS q a := by
  induction a generalizing q with
  | nil => cases h
  | cons c t ih =>
    have e1 : runS q (c :: t) = if (nextS q c).2 = true then runS (nextS q c).1 t else (q, false) := rfl
    have e2 : runS q (c :: t ++ b) = if (nextS q c).2 = true then runS (nextS q c).1 (t ++ b) else (q, false) := rfl
    rw [e1] at h
    rw [e2, e1]
    by_cases e : (nextS q c).2 = true
    · rw [if_pos e] at h ⊢
      rw [if_pos e]; exact ih _ h
    · rw [if_neg e, if_neg e]
/-- The newest is the first of the list. -/
def Fine (q : Q) (n : Nat) : Prop := (q.m = 0 ∨ q.m = 1) ∧ q.o.length = n ∧ q.p = []
theorem dsteps (q : Q) (c : UInt8) (t : List UInt8) : runS q (c :: t) = if (nextS q c).2 = true then runS (nextS q c).1 t else (q, false) := rfl
theorem next_val {m : Nat} {o : List UInt8} {c : UInt8} (hm : m = 0 ∨ m = 1) (hc : c.toNat = 91 ∨ c.toNat = 123 ∨ c.toNat = 49) : nextS ⟨m, o, []⟩ c = beginS ⟨m, o, []⟩ c := by
  unfold nextS
  rw [if_neg (by dsimp only; omega), if_neg (by dsimp only; omega), if_neg (by dsimp only; omega)]
  unfold outS
  rw [if_neg (by omega), if_neg (by omega), if_neg (by omega), if_neg (by omega), if_neg (by omega), if_neg (by omega)]
theorem begin_full {m : Nat} {o : List UInt8} {c : UInt8} (h : 32 ≤ o.length) : (beginS ⟨m, o, []⟩ c).2 = false := by
  unfold beginS; rw [if_pos (Or.inr h)]
theorem begin_row {m : Nat} {o : List UInt8} (hm : m = 0 ∨ m = 1) (h : o.length < 32) : beginS ⟨m, o, []⟩ 91 = (⟨1, o ++ [91], []⟩, true) := by
  unfold beginS; rw [if_neg (by dsimp only; omega), if_pos (by first | decide | (dsimp only; decide))]
theorem begin_map {m : Nat} {o : List UInt8} (hm : m = 0 ∨ m = 1) (h : o.length < 32) : beginS ⟨m, o, []⟩ 123 = (⟨2, o ++ [123], []⟩, true) := by
  unfold beginS; rw [if_neg (by dsimp only; omega), if_neg (by first | decide | (dsimp only; decide)), if_pos (by first | decide | (dsimp only; decide))]
theorem begin_one {m : Nat} {o : List UInt8} (hm : m = 0 ∨ m = 1) (h : o.length < 32) : beginS ⟨m, o, []⟩ 49 = (⟨9, o, [49]⟩, true) := by
  unfold beginS; rw [if_neg (by dsimp only; omega), if_neg (by first | decide | (dsimp only; decide)), if_neg (by first | decide | (dsimp only; decide)), if_neg (by first | decide | (dsimp only; decide)), if_neg (by first | decide | (dsimp only; decide)), if_pos (by first | decide | (dsimp only; decide))]
  rfl
theorem next_name (o : List UInt8) : nextS ⟨2, o, []⟩ 34 = (⟨7, o, []⟩, decide (o.length < 32)) := by
  unfold nextS
  rw [if_neg (by dsimp only; omega), if_neg (by dsimp only; omega), if_neg (by dsimp only; omega)]
  unfold outS
  rw [if_neg (by first | decide | (dsimp only; decide)), if_neg (by first | decide | (dsimp only; decide)), if_neg (by first | decide | (dsimp only; decide)), if_neg (by first | decide | (dsimp only; decide)), if_neg (by first | decide | (dsimp only; decide)), if_pos (by first | decide | (dsimp only; decide))]
theorem next_a (o : List UInt8) : nextS ⟨7, o, []⟩ 97 = (⟨7, o, []⟩, true) := by
  unfold nextS
  rw [if_pos (by dsimp only; omega)]
  unfold quoteS
  rw [if_neg (by first | decide | (dsimp only; decide)), if_neg (by first | decide | (dsimp only; decide)), if_neg (by first | decide | (dsimp only; decide))]
  rfl
theorem next_q (o : List UInt8) : nextS ⟨7, o, []⟩ 34 = (⟨4, o, []⟩, true) := by
  unfold nextS
  rw [if_pos (by dsimp only; omega)]
  unfold quoteS
  rw [if_neg (by first | decide | (dsimp only; decide)), if_pos (by first | decide | (dsimp only; decide))]
theorem next_c (o : List UInt8) : nextS ⟨4, o, []⟩ 58 = (⟨0, o, []⟩, true) := by
  unfold nextS
  rw [if_neg (by dsimp only; omega), if_neg (by dsimp only; omega), if_neg (by dsimp only; omega)]
  unfold outS
  rw [if_neg (by first | decide | (dsimp only; decide)), if_neg (by first | decide | (dsimp only; decide)), if_neg (by first | decide | (dsimp only; decide)), if_neg (by first | decide | (dsimp only; decide)), if_pos (by first | decide | (dsimp only; decide))]
  rfl
theorem run_full {q : Q} {n : Nat} (h : Fine q n) (h32 : 32 ≤ n) (c : UInt8) (t : List UInt8) (hc : c.toNat = 91 ∨ c.toNat = 123 ∨ c.toNat = 49) : (runS q (c :: t)).2 = false := by
  obtain ⟨m, o, p⟩ := q
  obtain ⟨hm, hn, hp⟩ := h
  dsimp only at hm hn hp
  subst hp
  rw [dsteps, next_val hm hc, begin_full (by omega)]
  rfl
theorem run_row {q : Q} {n : Nat} (h : Fine q n) (h32 : n < 32) : (runS q (opn false)).2 = true ∧ Fine (runS q (opn false)).1 (n + 1) := by
  obtain ⟨m, o, p⟩ := q
  obtain ⟨hm, hn, hp⟩ := h
  dsimp only at hm hn hp
  subst hp
  have e : runS ⟨m, o, []⟩ (opn false) = (⟨1, o ++ [91], []⟩, true) := by
    show runS ⟨m, o, []⟩ [91] = _
    rw [dsteps, next_val hm (by decide), begin_row hm (by omega)]; rfl
  rw [e]
  exact ⟨rfl, Or.inr rfl, by simp; omega, rfl⟩
theorem run_map {q : Q} {n : Nat} (h : Fine q n) (h32 : n < 32) : (runS q (opn true)).2 = decide (n + 1 < 32) ∧ (n + 1 < 32 → Fine (runS q (opn true)).1 (n + 1)) := by
  obtain ⟨m, o, p⟩ := q
  obtain ⟨hm, hn, hp⟩ := h
  dsimp only at hm hn hp
  subst hp
  have e1 : runS ⟨m, o, []⟩ (opn true) = runS ⟨2, o ++ [123], []⟩ [34, 97, 34, 58] := by
    show runS ⟨m, o, []⟩ [123, 34, 97, 34, 58] = _
    rw [dsteps, next_val hm (by decide), begin_map hm (by omega)]; rfl
  rw [e1, dsteps, next_name]
  have hl : (o ++ [123]).length = n + 1 := by simp; omega
  rw [hl]
  by_cases h31 : n + 1 < 32
  · rw [decide_eq_true h31, if_pos rfl]
    have e2 : runS ⟨7, o ++ [123], []⟩ [97, 34, 58] = (⟨0, o ++ [123], []⟩, true) := by
      rw [dsteps, next_a, if_pos rfl, dsteps, next_q, if_pos rfl, dsteps, next_c, if_pos rfl]; rfl
    dsimp only
    rw [e2]
    exact ⟨rfl, fun _ => ⟨Or.inl rfl, hl, rfl⟩⟩
  · rw [decide_eq_false h31]
    exact ⟨rfl, fun h => absurd h h31⟩
theorem run_names {q : Q} {n : Nat} (h : Fine q n) (h32 : n < 32) : (runS q [123, 34]).2 = decide (n + 1 < 32) := by
  obtain ⟨m, o, p⟩ := q
  obtain ⟨hm, hn, hp⟩ := h
  dsimp only at hm hn hp
  subst hp
  have hl : (o ++ [123]).length = n + 1 := by simp; omega
  rw [dsteps, next_val hm (by decide), begin_map hm (by omega), if_pos rfl, dsteps, next_name, hl]
  by_cases h31 : n + 1 < 32
  · rw [decide_eq_true h31]; rfl
  · rw [decide_eq_false h31]; rfl
theorem run_opens {q : Q} {n : Nat} (h : Fine q n) (h32 : n < 32) : (runS q [123]).2 = true := by
  obtain ⟨m, o, p⟩ := q
  obtain ⟨hm, hn, hp⟩ := h
  dsimp only at hm hn hp
  subst hp
  rw [dsteps, next_val hm (by decide), begin_map hm (by omega)]; rfl
theorem run_leaf {q : Q} {n : Nat} (h : Fine q n) (h32 : n < 32) : (runS q [49]).2 = true ∧ (runS q [49]).1.o.length = n := by
  obtain ⟨m, o, p⟩ := q
  obtain ⟨hm, hn, hp⟩ := h
  dsimp only at hm hn hp
  subst hp
  have e : runS ⟨m, o, []⟩ [49] = (⟨9, o, [49]⟩, true) := by rw [dsteps, next_val hm (by decide), begin_one hm (by omega)]; rfl
  rw [e]
  exact ⟨rfl, hn⟩
/-- How a text of openings is read. -/
theorem deep_run (l : List Bool) :
    (l.length < 32 → (runS q0 (txt l)).2 = true ∧ Fine (runS q0 (txt l)).1 l.length) ∧
    (l.length = 32 → (runS q0 (txt l)).2 = !(l.headD false) ∧ (l.headD false = false → Fine (runS q0 (txt l)).1 32)) ∧
    (32 < l.length → (runS q0 (txt l)).2 = false) := by
  induction l with
  | nil => exact ⟨fun _ => ⟨rfl, Or.inl rfl, rfl, rfl⟩, fun h => (by cases h), fun h => (by simp at h)⟩
  | cons b t ih =>
    obtain ⟨i1, i2, i3⟩ := ih
    have e : txt (b :: t) = txt t ++ opn b := rfl
    have hl : (b :: t).length = t.length + 1 := rfl
    have hh : (b :: t).headD false = b := rfl
    rw [e, hl, hh]
    by_cases h1 : t.length < 32
    · obtain ⟨ok, fine⟩ := i1 h1
      have ea : runS q0 (txt t ++ opn b) = runS (runS q0 (txt t)).1 (opn b) := run_app _ _ _ ok
      rw [ea]
      cases b
      · obtain ⟨k1, k2⟩ := run_row fine h1
        refine ⟨fun h => ⟨k1, k2⟩, fun h => ⟨k1, fun _ => ?_⟩, fun h => by omega⟩
        rw [h] at k2; exact k2
      · obtain ⟨k1, k2⟩ := run_map fine h1
        refine ⟨fun h => ⟨by rw [k1]; exact decide_eq_true h, k2 h⟩, fun h => ⟨by rw [k1]; exact decide_eq_false (by omega), fun h => (by cases h)⟩, fun h => by omega⟩
    · refine ⟨fun h => by omega, fun h => by omega, fun _ => ?_⟩
      by_cases ok : (runS q0 (txt t)).2 = true
      · have h32 : t.length = 32 := by
          by_cases h : 32 < t.length
          · rw [i3 h] at ok; cases ok
          · omega
        obtain ⟨k1, k2⟩ := i2 h32
        have hd : t.headD false = false := by
          rw [k1] at ok
          cases h : t.headD false
          · rfl
          · rw [h] at ok; cases ok
        rw [run_app _ _ _ ok]
        have fine := k2 hd
        cases b
        · exact run_full fine (Nat.le_refl _) 91 [] (by decide)
        · exact run_full fine (Nat.le_refl _) 123 [34, 97, 34, 58] (by decide)
      · simp only [Bool.not_eq_true] at ok
        rw [run_fail _ _ _ ok]; exact ok
/-- One more thing behind a text of openings. -/
theorem deep_more (l : List Bool) (u : List UInt8) (c : UInt8) (u' : List UInt8) (hu : u = c :: u') (hc : c.toNat = 91 ∨ c.toNat = 123 ∨ c.toNat = 49) (h : 32 ≤ l.length) : (runS q0 (txt l ++ u)).2 = false := by
  subst hu
  obtain ⟨i1, i2, i3⟩ := deep_run l
  by_cases ok : (runS q0 (txt l)).2 = true
  · have h32 : l.length = 32 := by
      by_cases h : 32 < l.length
      · rw [i3 h] at ok; cases ok
      · omega
    obtain ⟨k1, k2⟩ := i2 h32
    have hd : l.headD false = false := by
      rw [k1] at ok
      cases h : l.headD false
      · rfl
      · rw [h] at ok; cases ok
    rw [run_app _ _ _ ok]
    exact run_full (k2 hd) (Nat.le_refl _) c u' hc
  · simp only [Bool.not_eq_true] at ok
    rw [run_fail _ _ _ ok]; exact ok
theorem deep_opens (l : List Bool) : (runS q0 (txt l ++ [123])).2 = decide (l.length < 32) := by
  by_cases h : l.length < 32
  · obtain ⟨ok, fine⟩ := (deep_run l).1 h
    rw [run_app _ _ _ ok, run_opens fine h, decide_eq_true h]
  · rw [decide_eq_false h, deep_more l [123] 123 [] rfl (by decide) (by omega)]
theorem deep_names (l : List Bool) : (runS q0 (txt l ++ [123, 34])).2 = decide (l.length + 1 < 32) := by
  by_cases h : l.length < 32
  · obtain ⟨ok, fine⟩ := (deep_run l).1 h
    rw [run_app _ _ _ ok, run_names fine h]
  · rw [decide_eq_false (by omega), deep_more l [123, 34] 123 [34] rfl (by decide) (by omega)]
/-- With a leaf, or without one. -/
theorem deep_leaf (l : List Bool) (leaf : Bool) :
    (runS q0 (txt l ++ if leaf then [49] else [])).2 = (decide (l.length < 32) || (decide (l.length = 32) && !leaf && !(l.headD false))) ∧
    ((runS q0 (txt l ++ if leaf then [49] else [])).2 = true → (runS q0 (txt l ++ if leaf then [49] else [])).1.o.length = l.length) := by
  cases leaf
  · simp only [Bool.false_eq_true, if_false, List.append_nil]
    obtain ⟨i1, i2, i3⟩ := deep_run l
    by_cases h : l.length < 32
    · obtain ⟨ok, fine⟩ := i1 h
      rw [ok, decide_eq_true h]
      exact ⟨rfl, fun _ => fine.2.1⟩
    · by_cases h2 : l.length = 32
      · obtain ⟨k1, k2⟩ := i2 h2
        rw [k1, decide_eq_false h, decide_eq_true h2]
        refine ⟨by simp, fun hh => ?_⟩
        have := (k2 (by simpa using hh)).2.1
        rw [this, h2]
      · rw [i3 (by omega), decide_eq_false h, decide_eq_false h2]
        exact ⟨rfl, fun hh => (by cases hh)⟩
  · simp only [if_true]
    by_cases h : l.length < 32
    · obtain ⟨ok, fine⟩ := (deep_run l).1 h
      obtain ⟨k1, k2⟩ := run_leaf fine h
      rw [run_app _ _ _ ok, k1, decide_eq_true h]
      exact ⟨rfl, fun _ => k2⟩
    · rw [deep_more l [49] 49 [] rfl (by decide) (by omega), decide_eq_false h]
      exact ⟨by simp, fun hh => (by cases hh)⟩
end Go.Proofs.Ytmfldffbafamnaa
