/- Plain: a JSON text's tokens, and the value that they are, by the document. -/
import Derived.Test.YtjnmcadfaombjaaQuoP
namespace Go.Proofs.Ytjnmcadfaombjaa
set_option linter.unusedVariables false
set_option linter.unusedSimpArgs false
def isDg (c : Nat) : Prop := 48 ≤ c ∧ c ≤ 57
instance (c : Nat) : Decidable (isDg c) := by unfold isDg; infer_instance
/-- How many digits a text begins with. -/
def digN : List UInt8 → Nat
  | [] => 0
  | c :: t => if isDg c.toNat then 1 + digN t else 0
/-- The place behind the digits that stand at one. -/
def digE (l : List UInt8) (k : Nat) : Nat := k + digN (l.drop k)
theorem digN_le : ∀ l : List UInt8, digN l ≤ l.length
  | [] => Nat.le_refl _
  | c :: t => by
    unfold digN
    split
    · have := digN_le t; simp only [List.length_cons]; omega
    · omega
theorem digN_cons (c : UInt8) (t : List UInt8) : digN (c :: t) = if isDg c.toNat then 1 + digN t else 0 := rfl
theorem digE_ge (l : List UInt8) (k : Nat) : k ≤ digE l k := by unfold digE; omega
theorem digE_le (l : List UInt8) (k : Nat) (h : k ≤ l.length) : digE l k ≤ l.length := by
  unfold digE
  have := digN_le (l.drop k)
  rw [List.length_drop] at this; omega
theorem digE_out (l : List UInt8) (k : Nat) (h : l.length ≤ k) : digE l k = k := by
  unfold digE; rw [List.drop_eq_nil_of_le h]; rfl
theorem digE_yes {l : List UInt8} {k : Nat} (h : k < l.length) (hd : isDg (bt l k)) : digE l k = digE l (k + 1) := by
  unfold digE
  rw [List.drop_eq_getElem_cons h, digN_cons, bt_get h, if_pos hd]; omega
theorem digE_no {l : List UInt8} {k : Nat} (hd : ¬ isDg (bt l k)) : digE l k = k := by
  by_cases h : k < l.length
  · unfold digE
    rw [List.drop_eq_getElem_cons h, digN_cons, bt_get h, if_neg hd]; rfl
  · exact digE_out l k (by omega)
/-- The place behind the number that stands at one. -/
def numStart (l : List UInt8) (k : Nat) : Nat := if bt l k = 45 then k + 1 else k
def numFrac (l : List UInt8) (e : Nat) : Nat := if bt l e = 46 ∧ e + 1 < digE l (e + 1) then digE l (e + 1) else e
def expStart (l : List UInt8) (f : Nat) : Nat := if bt l f = 43 ∨ bt l f = 45 then f + 1 else f
def numExp (l : List UInt8) (e : Nat) : Nat :=
  if bt l e = 101 ∨ bt l e = 69 then (if expStart l (e + 1) < digE l (expStart l (e + 1)) then digE l (expStart l (e + 1)) else e) else e
def numInt (l : List UInt8) (k : Nat) : Nat := if bt l k = 48 then k + 1 else digE l k
def numE (l : List UInt8) (k : Nat) : Option Nat :=
  if digE l (numStart l k) = numStart l k then none else some (numExp l (numFrac l (numInt l (numStart l k))))
theorem numFrac_bd (l : List UInt8) (e : Nat) (h : e ≤ l.length) : e ≤ numFrac l e ∧ numFrac l e ≤ l.length := by
  unfold numFrac
  split
  · rename_i h1
    have := bt_pos_lt (l := l) (k := e) (by omega)
    exact ⟨by omega, digE_le l _ (by omega)⟩
  · exact ⟨Nat.le_refl _, h⟩
theorem expStart_bd (l : List UInt8) (e : Nat) (h : e ≤ l.length) : e ≤ expStart l e ∧ expStart l e ≤ l.length := by
  unfold expStart
  split
  · rename_i h1
    have := bt_pos_lt (l := l) (k := e) (by omega)
    omega
  · omega
theorem numExp_bd (l : List UInt8) (e : Nat) (h : e ≤ l.length) : e ≤ numExp l e ∧ numExp l e ≤ l.length := by
  unfold numExp
  split
  · rename_i h1
    have := bt_pos_lt (l := l) (k := e) (by omega)
    have h2 := expStart_bd l (e + 1) (by omega)
    split
    · exact ⟨by omega, digE_le l _ h2.2⟩
    · exact ⟨Nat.le_refl _, h⟩
  · exact ⟨Nat.le_refl _, h⟩
theorem numStart_bd (l : List UInt8) (k : Nat) (h : k < l.length) : k ≤ numStart l k ∧ numStart l k ≤ l.length := by
  unfold numStart; split <;> omega
theorem digE_pos {l : List UInt8} {k : Nat} (h : digE l k ≠ k) : k < l.length ∧ isDg (bt l k) := by
  constructor
  · rcases Nat.lt_or_ge k l.length with h1 | h1
    · exact h1
    · exact absurd (digE_out l k h1) h
  · by_cases h1 : isDg (bt l k)
    · exact h1
    · exact absurd (digE_no h1) h
theorem numE_bd {l : List UInt8} {k e : Nat} (hk : k < l.length) (h : numE l k = some e) : k < e ∧ e ≤ l.length := by
  unfold numE at h
  split at h
  · cases h
  · rename_i hd
    cases h
    have h0 := numStart_bd l k hk
    have hp := digE_pos hd
    have h1 : numStart l k < numInt l (numStart l k) ∧ numInt l (numStart l k) ≤ l.length := by
      unfold numInt
      split
      · omega
      · have := digE_ge l (numStart l k)
        exact ⟨by omega, digE_le l _ h0.2⟩
    have h2 := numFrac_bd l _ h1.2
    have h3 := numExp_bd l _ h2.2
    omega
/-- The text of a string behind its first sign, and how many bytes it has with its last sign. -/
def strF : Nat → List UInt8 → Option (List UInt8 × Nat)
  | 0, _ => none
  | f + 1, l => if l = [] then none else if bt l 0 = 34 then some ([], 1) else
    match oneJ l with
    | none => none
    | some (r, n) => (strF f (l.drop n)).map fun p => (enc r ++ p.1, n + p.2)
def strJ (l : List UInt8) : Option (List UInt8 × Nat) := strF l.length l
theorem strF_more : ∀ (f g : Nat) (l : List UInt8), l.length ≤ f → l.length ≤ g → strF f l = strF g l
  | 0, 0, _, _, _ => rfl
  | 0, g + 1, l, hf, _ => by
    have : l = [] := List.length_eq_zero_iff.1 (by omega)
    subst this; simp [strF]
  | f + 1, 0, l, _, hg => by
    have : l = [] := List.length_eq_zero_iff.1 (by omega)
    subst this; simp [strF]
  | f + 1, g + 1, l, hf, hg => by
    unfold strF
    split
    · rfl
    · split
      · rfl
      · split
        · rfl
        · rename_i r n h
          have hb := oneJ_bound h
          rw [strF_more f g (l.drop n) (by rw [List.length_drop]; omega) (by rw [List.length_drop]; omega)]
theorem strJ_nil : strJ [] = none := rfl
theorem strJ_step {l : List UInt8} (h0 : l ≠ []) : strJ l = if bt l 0 = 34 then some ([], 1) else
    match oneJ l with
    | none => none
    | some (r, n) => (strJ (l.drop n)).map fun p => (enc r ++ p.1, n + p.2) := by
  unfold strJ
  obtain ⟨k, hk⟩ : ∃ k, l.length = k + 1 := ⟨l.length - 1, by have := List.length_pos_iff.2 h0; omega⟩
  rw [hk, strF, if_neg h0]
  split
  · rfl
  · split
    · rfl
    · rename_i r n h
      have hb := oneJ_bound h
      rw [strF_more k (l.drop n).length (l.drop n) (by rw [List.length_drop]; omega) (Nat.le_refl _)]
theorem strJ_bd : ∀ (m : Nat) (l : List UInt8), l.length ≤ m → ∀ t n, strJ l = some (t, n) → 1 ≤ n ∧ n ≤ l.length ∧ t.length ≤ 4 * n
  | m, [], _, t, n, h => by rw [strJ_nil] at h; cases h
  | 0, _ :: _, hl, t, n, h => by simp at hl
  | m + 1, a :: r, hl, t, n, h => by
    have h0 : a :: r ≠ [] := by simp
    rw [strJ_step h0] at h
    split at h
    · simp only [Option.some.injEq, Prod.mk.injEq] at h
      obtain ⟨rfl, rfl⟩ := h
      simp
    · split at h
      · cases h
      · rename_i x k ho
        have hb := oneJ_bound ho
        cases hs : strJ ((a :: r).drop k) with
        | none => rw [hs] at h; cases h
        | some p =>
          obtain ⟨u, j⟩ := p
          rw [hs] at h
          simp only [Option.map_some, Option.some.injEq, Prod.mk.injEq] at h
          obtain ⟨rfl, rfl⟩ := h
          have hle : ((a :: r).drop k).length ≤ m := by rw [List.length_drop]; simp only [List.length_cons] at *; omega
          have h2 := strJ_bd m _ hle u j hs
          have h3 := (enc_length (x : Int)).1
          rw [List.length_drop] at h2
          rw [List.length_append]
          omega
structure Tok where
  kind : Nat
  text : List UInt8
  frm : Nat
  to : Nat
def markK (c : Nat) : Prop := c = 123 ∨ c = 125 ∨ c = 91 ∨ c = 93 ∨ c = 58 ∨ c = 44
instance (c : Nat) : Decidable (markK c) := by unfold markK; infer_instance
def blankK (c : Nat) : Prop := c = 32 ∨ c = 9 ∨ c = 10 ∨ c = 13
instance (c : Nat) : Decidable (blankK c) := by unfold blankK; infer_instance
def tTrue : List UInt8 := [116, 114, 117, 101]
def tFalse : List UInt8 := [102, 97, 108, 115, 101]
def tNull : List UInt8 := [110, 117, 108, 108]
def atL (l p : List UInt8) (k : Nat) : Bool := decide (k ≤ l.length) && decide ((l.drop k).take p.length = p)
/-- The token that stands at a place. -/
def oneT (l : List UInt8) (k : Nat) : Option Tok :=
  if markK (bt l k) then some ⟨bt l k, [], k, k + 1⟩
  else if bt l k = 34 then
    match strJ (l.drop (k + 1)) with
    | none => none
    | some (t, n) => some ⟨34, t, k, k + 1 + n⟩
  else if atL l tTrue k then some ⟨97, tTrue, k, k + 4⟩
  else if atL l tFalse k then some ⟨97, tFalse, k, k + 5⟩
  else if atL l tNull k then some ⟨97, tNull, k, k + 4⟩
  else match numE l k with
    | none => none
    | some e => some ⟨48, (l.drop k).take (e - k), k, e⟩
theorem atL_len {l p : List UInt8} {k : Nat} (h : atL l p k = true) : k + p.length ≤ l.length ∨ p = [] := by
  unfold atL at h
  simp only [Bool.and_eq_true, decide_eq_true_eq] at h
  have := congrArg List.length h.2
  rw [List.length_take, List.length_drop] at this
  by_cases hp : p = []
  · exact .inr hp
  · left; have := List.length_pos_iff.2 hp; omega
theorem oneT_bd {l : List UInt8} {k : Nat} {t : Tok} (hk : k < l.length) (h : oneT l k = some t) : t.frm = k ∧ k < t.to ∧ t.to ≤ l.length ∧ t.kind < 256 ∧ t.text.length ≤ 4 * l.length := by
  unfold oneT at h
  split at h
  · cases h; exact ⟨rfl, Nat.lt_succ_self _, hk, bt_lt l k, by simp⟩
  split at h
  · split at h
    · cases h
    · rename_i u n hs
      cases h
      have := strJ_bd _ _ (Nat.le_refl _) u n hs
      rw [List.length_drop] at this
      exact ⟨rfl, by dsimp only; omega, by dsimp only; omega, by dsimp only; omega, by dsimp only; omega⟩
  split at h
  · rename_i h1
    cases h
    rcases atL_len h1 with h2 | h2
    · have e : tTrue.length = 4 := rfl
      exact ⟨rfl, by dsimp only; omega, by dsimp only; omega, by dsimp only; omega, by dsimp only; omega⟩
    · cases h2
  split at h
  · rename_i h1
    cases h
    rcases atL_len h1 with h2 | h2
    · have e : tFalse.length = 5 := rfl
      exact ⟨rfl, by dsimp only; omega, by dsimp only; omega, by dsimp only; omega, by dsimp only; omega⟩
    · cases h2
  split at h
  · rename_i h1
    cases h
    rcases atL_len h1 with h2 | h2
    · have e : tNull.length = 4 := rfl
      exact ⟨rfl, by dsimp only; omega, by dsimp only; omega, by dsimp only; omega, by dsimp only; omega⟩
    · cases h2
  split at h
  · cases h
  · rename_i e he
    cases h
    have := numE_bd hk he
    refine ⟨rfl, this.1, this.2, by dsimp only; omega, ?_⟩
    dsimp only
    rw [List.length_take, List.length_drop]; omega
def toksF : Nat → List UInt8 → Nat → Option (List Tok)
  | 0, _, _ => some []
  | f + 1, l, k => if l.length ≤ k then some [] else if blankK (bt l k) then toksF f l (k + 1) else
    match oneT l k with
    | none => none
    | some t => (toksF f l t.to).map (t :: ·)
/-- A text's tokens, from a place on. -/
def toksAt (l : List UInt8) (k : Nat) : Option (List Tok) := toksF (l.length - k) l k
theorem toksF_more : ∀ (f g : Nat) (l : List UInt8) (k : Nat), l.length ≤ f + k → l.length ≤ g + k → toksF f l k = toksF g l k
  | 0, 0, _, _, _, _ => rfl
  | 0, g + 1, l, k, hf, _ => by unfold toksF; rw [if_pos (by omega)]
  | f + 1, 0, l, k, _, hg => by unfold toksF; rw [if_pos (by omega)]
  | f + 1, g + 1, l, k, hf, hg => by
    unfold toksF
    split
    · rfl
    · split
      · exact toksF_more f g l (k + 1) (by omega) (by omega)
      · split
        · rfl
        · rename_i h1 h2 t ho
          have hb := oneT_bd (by omega) ho
          rw [toksF_more f g l t.to (by omega) (by omega)]
theorem toksAt_end {l : List UInt8} {k : Nat} (h : l.length ≤ k) : toksAt l k = some [] := by
  unfold toksAt
  rw [show l.length - k = 0 by omega]; rfl
theorem toksAt_step {l : List UInt8} {k : Nat} (h : k < l.length) : toksAt l k = if blankK (bt l k) then toksAt l (k + 1) else
    match oneT l k with
    | none => none
    | some t => (toksAt l t.to).map (t :: ·) := by
  unfold toksAt
  obtain ⟨m, hm⟩ : ∃ m, l.length - k = m + 1 := ⟨l.length - k - 1, by omega⟩
  rw [hm, toksF, if_neg (by omega)]
  split
  · rw [toksF_more m (l.length - (k + 1)) l (k + 1) (by omega) (by omega)]
  · split
    · rfl
    · rename_i t ho
      have hb := oneT_bd h ho
      rw [toksF_more m (l.length - t.to) l t.to (by omega) (by omega)]
def toks (l : List UInt8) : Option (List Tok) := toksAt l 0
inductive Node where
  | mk (kind : Nat) (text : List UInt8) (keys : List (List UInt8)) (kids : List Node)
def Node.kind : Node → Nat | .mk k _ _ _ => k
def Node.text : Node → List UInt8 | .mk _ t _ _ => t
def Node.keys : Node → List (List UInt8) | .mk _ _ ks _ => ks
def Node.kids : Node → List Node | .mk _ _ _ ns => ns
def isK (ts : List Tok) (k c : Nat) : Bool := match ts[k]? with | some t => decide (t.kind = c) | none => false
def txt (ts : List Tok) (k : Nat) : List UInt8 := match ts[k]? with | some t => t.text | none => []
/-- The members of a row or a map, from a place on. -/
def elems (val : Nat → Option (Node × Nat)) (ts : List Tok) (map : Bool) (endk : Nat) : Nat → Nat → List (List UInt8) → List Node → Option (List (List UInt8) × List Node × Nat)
  | 0, _, _, _ => none
  | g + 1, k, ks, ns =>
    if map = true ∧ ¬ (isK ts k 34 = true ∧ isK ts (k + 1) 58 = true) then none
    else match val (if map then k + 2 else k) with
      | none => none
      | some (n, k2) =>
        if isK ts k2 endk then some (if map then ks ++ [txt ts k] else ks, ns ++ [n], k2 + 1)
        else if isK ts k2 44 then elems val ts map endk g (k2 + 1) (if map then ks ++ [txt ts k] else ks) (ns ++ [n])
        else none
/-- The node that begins at a token, and the place behind it. -/
def valI : Nat → List Tok → Nat → Option (Node × Nat)
  | 0, _, _ => none
  | f + 1, ts, k => match ts[k]? with
    | none => none
    | some t =>
      if t.kind = 34 ∨ t.kind = 48 ∨ t.kind = 97 then some (.mk t.kind t.text [] [], k + 1)
      else if t.kind ≠ 91 ∧ t.kind ≠ 123 then none
      else if isK ts (k + 1) (if t.kind = 123 then 125 else 93) then some (.mk t.kind t.text [] [], k + 2)
      else match elems (fun j => valI f ts j) ts (decide (t.kind = 123)) (if t.kind = 123 then 125 else 93) ts.length (k + 1) [] [] with
        | none => none
        | some (ks, ns, k2) => some (.mk t.kind t.text ks ns, k2)
def val (ts : List Tok) : Option (Node × Nat) := valI (ts.length + 1) ts 0
mutual
def deepN : Node → Nat
  | .mk _ _ _ ns => deepL ns + 1
def deepL : List Node → Nat
  | [] => 0
  | n :: ns => max (deepN n) (deepL ns)
end
/-- What a text is: a value, or why it is none (7: no value; 8: too deep). -/
def parseJ (l : List UInt8) : Except Nat Node :=
  match toks l with
  | none => .error 7
  | some ts => match val ts with
    | none => .error 7
    | some (n, k) => if k = ts.length then (if 32 < deepN n then .error 8 else .ok n) else .error 7
end Go.Proofs.Ytjnmcadfaombjaa
