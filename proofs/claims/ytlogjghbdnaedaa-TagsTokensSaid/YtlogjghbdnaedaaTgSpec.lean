/- Plain: a page's tokens, by the document. -/
import Derived.Test.YtlogjghbdnaedaaOctSpec
namespace Go.Proofs.Ytlogjghbdnaedaa
set_option linter.unusedVariables false
set_option linter.unusedSimpArgs false
structure Att where
  name : List UInt8
  val : List UInt8
  frm : Nat
  to : Nat
structure Tg where
  kind : Nat
  name : List UInt8
  text : List UInt8
  atts : List Att
  frm : Nat
  to : Nat
def nameK (c : Nat) : Prop := (97 ≤ c ∧ c ≤ 122) ∨ (48 ≤ c ∧ c ≤ 57)
instance (c : Nat) : Decidable (nameK c) := by unfold nameK; infer_instance
def gapK (c : Nat) : Prop := c = 32 ∨ c = 9 ∨ c = 10
instance (c : Nat) : Decidable (gapK c) := by unfold gapK; infer_instance
/-- How many bytes of a kind a text begins with. -/
def runN (P : Nat → Bool) : List UInt8 → Nat
  | [] => 0
  | c :: t => if P c.toNat then 1 + runN P t else 0
def nameB (c : Nat) : Bool := decide (nameK c)
def gapB (c : Nat) : Bool := decide (gapK c)
/-- The place behind the bytes of a kind that stand at one. -/
def runE (P : Nat → Bool) (l : List UInt8) (k : Nat) : Nat := k + runN P (l.drop k)
theorem runN_le (P : Nat → Bool) : ∀ l : List UInt8, runN P l ≤ l.length
  | [] => Nat.le_refl _
  | c :: t => by
    unfold runN
    split
    · have := runN_le P t; simp only [List.length_cons]; omega
    · omega
theorem runN_cons (P : Nat → Bool) (c : UInt8) (t : List UInt8) : runN P (c :: t) = if P c.toNat then 1 + runN P t else 0 := rfl
theorem runE_ge (P : Nat → Bool) (l : List UInt8) (k : Nat) : k ≤ runE P l k := by unfold runE; omega
theorem runE_le (P : Nat → Bool) (l : List UInt8) (k : Nat) (h : k ≤ l.length) : runE P l k ≤ l.length := by
  unfold runE
  have := runN_le P (l.drop k)
  rw [List.length_drop] at this; omega
theorem runE_out (P : Nat → Bool) (l : List UInt8) (k : Nat) (h : l.length ≤ k) : runE P l k = k := by
  unfold runE; rw [List.drop_eq_nil_of_le h]; rfl
theorem runE_yes {P : Nat → Bool} {l : List UInt8} {k : Nat} (h : k < l.length) (hd : P (bt l k) = true) : runE P l k = runE P l (k + 1) := by
  unfold runE
  rw [List.drop_eq_getElem_cons h, runN_cons, bt_get h, if_pos hd]; omega
theorem runE_no {P : Nat → Bool} {l : List UInt8} {k : Nat} (hd : P (bt l k) = false) : runE P l k = k := by
  by_cases h : k < l.length
  · unfold runE
    rw [List.drop_eq_getElem_cons h, runN_cons, bt_get h, hd]; rfl
  · exact runE_out P l k (by omega)
/-- The bytes of a kind that stand at a place. -/
def runT (P : Nat → Bool) (l : List UInt8) (k : Nat) : List UInt8 := (l.drop k).take (runE P l k - k)
theorem runT_len {P : Nat → Bool} {l : List UInt8} {k : Nat} (h : k ≤ l.length) : (runT P l k).length = runE P l k - k := by
  unfold runT
  rw [List.length_take, List.length_drop]
  have := runE_le P l k h
  omega
def atS (l p : List UInt8) (k : Nat) : Bool := decide (k ≤ l.length) && decide ((l.drop k).take p.length = p)
/-- The number that digits of a base say, at most so many, and how many they are. -/
def numD (base : Nat) : Nat → Nat → List UInt8 → Nat × Nat
  | 0, n, _ => (n, 0)
  | f + 1, n, [] => (n, 0)
  | f + 1, n, c :: t => if wth c.toNat < base then ((numD base f (n * base + wth c.toNat) t).1, (numD base f (n * base + wth c.toNat) t).2 + 1) else (n, 0)
theorem numD_nil (base f n : Nat) : numD base f n [] = (n, 0) := by cases f <;> rfl
theorem numD_cons (base f n : Nat) (c : UInt8) (t : List UInt8) : numD base (f + 1) n (c :: t) = if wth c.toNat < base then ((numD base f (n * base + wth c.toNat) t).1, (numD base f (n * base + wth c.toNat) t).2 + 1) else (n, 0) := rfl
theorem numD_le (base : Nat) : ∀ (f n : Nat) (l : List UInt8), (numD base f n l).2 ≤ l.length ∧ (numD base f n l).2 ≤ f
  | 0, n, l => by simp [numD]
  | f + 1, n, [] => by simp [numD]
  | f + 1, n, c :: t => by
    rw [numD_cons]
    split
    · have := numD_le base f (n * base + wth c.toNat) t
      simp only [List.length_cons]; omega
    · simp
theorem numD_lt (base : Nat) (hb : 0 < base) : ∀ (f n : Nat) (l : List UInt8), (numD base f n l).1 < (n + 1) * base ^ f
  | 0, n, l => by simp [numD]
  | f + 1, n, [] => by
    rw [numD_nil]
    have := Nat.one_le_pow (f + 1) base hb
    calc n < n + 1 := Nat.lt_succ_self n
      _ ≤ (n + 1) * base ^ (f + 1) := Nat.le_mul_of_pos_right _ this
  | f + 1, n, c :: t => by
    rw [numD_cons]
    split
    · rename_i h
      have := numD_lt base hb f (n * base + wth c.toNat) t
      have h2 : (n * base + wth c.toNat + 1) * base ^ f ≤ (n + 1) * base ^ (f + 1) := by
        rw [Nat.pow_succ, Nat.mul_comm (base ^ f) base, ← Nat.mul_assoc, Nat.add_mul n 1 base]
        exact Nat.mul_le_mul_right _ (by omega)
      exact Nat.lt_of_lt_of_le this h2
    · have := Nat.one_le_pow (f + 1) base hb
      calc n < n + 1 := Nat.lt_succ_self n
        _ ≤ (n + 1) * base ^ (f + 1) := Nat.le_mul_of_pos_right _ this
/-- The rune that digits and a sign behind them say, and how many bytes these are. -/
def numR (base most : Nat) (l : List UInt8) : Option (Nat × Nat) :=
  if 0 < (numD base most 0 l).1 ∧ isRune ((numD base most 0 l).1 : Int) ∧ bt l (numD base most 0 l).2 = 59 then some ((numD base most 0 l).1, (numD base most 0 l).2 + 1) else none
def sAmp : List UInt8 := [38, 97, 109, 112, 59]
def sLt : List UInt8 := [38, 108, 116, 59]
def sGt : List UInt8 := [38, 103, 116, 59]
def sQuot : List UInt8 := [38, 113, 117, 111, 116, 59]
def sHex : List UInt8 := [38, 35, 120]
def sNum : List UInt8 := [38, 35]
/-- The reference at the front of a text: what it says, and how many bytes it has. -/
def refJ (l : List UInt8) : Option (List UInt8 × Nat) :=
  if atS l sAmp 0 then some ([38], 5)
  else if atS l sLt 0 then some ([60], 4)
  else if atS l sGt 0 then some ([62], 4)
  else if atS l sQuot 0 then some ([34], 6)
  else if atS l sHex 0 then (numR 16 6 (l.drop 3)).map fun p => (enc p.1, 3 + p.2)
  else if atS l sNum 0 then (numR 10 7 (l.drop 2)).map fun p => (enc p.1, 2 + p.2)
  else none
theorem atS_len {l p : List UInt8} {k : Nat} (h : atS l p k = true) : k + p.length ≤ l.length ∨ p = [] := by
  unfold atS at h
  simp only [Bool.and_eq_true, decide_eq_true_eq] at h
  have := congrArg List.length h.2
  rw [List.length_take, List.length_drop] at this
  by_cases hp : p = []
  · exact .inr hp
  · left; have := List.length_pos_iff.2 hp; omega
theorem numR_bd {base most : Nat} {l : List UInt8} {v m : Nat} (h : numR base most l = some (v, m)) : isRune (v : Int) ∧ 0 < v ∧ 1 ≤ m ∧ m ≤ l.length ∧ m ≤ most + 1 := by
  unfold numR at h
  split at h
  · rename_i hc
    simp only [Option.some.injEq, Prod.mk.injEq] at h
    obtain ⟨rfl, rfl⟩ := h
    have := bt_pos_lt (l := l) (k := (numD base most 0 l).2) (by omega)
    have := numD_le base most 0 l
    exact ⟨hc.2.1, hc.1, by omega, by omega, by omega⟩
  · cases h
theorem refJ_bd {l x : List UInt8} {n : Nat} (h : refJ l = some (x, n)) : 1 ≤ n ∧ n ≤ l.length ∧ n ≤ 10 ∧ 1 ≤ x.length ∧ x.length ≤ 4 := by
  unfold refJ at h
  split at h
  · rename_i h1
    cases h
    rcases atS_len h1 with h2 | h2
    · have e : sAmp.length = 5 := rfl
      simp; omega
    · cases h2
  split at h
  · rename_i h1
    cases h
    rcases atS_len h1 with h2 | h2
    · have e : sLt.length = 4 := rfl
      simp; omega
    · cases h2
  split at h
  · rename_i h1
    cases h
    rcases atS_len h1 with h2 | h2
    · have e : sGt.length = 4 := rfl
      simp; omega
    · cases h2
  split at h
  · rename_i h1
    cases h
    rcases atS_len h1 with h2 | h2
    · have e : sQuot.length = 6 := rfl
      simp; omega
    · cases h2
  split at h
  · rename_i h1
    cases hn : numR 16 6 (l.drop 3) with
    | none => rw [hn] at h; cases h
    | some p =>
      obtain ⟨v, m⟩ := p
      rw [hn] at h
      simp only [Option.map_some, Option.some.injEq, Prod.mk.injEq] at h
      obtain ⟨rfl, rfl⟩ := h
      have hb := numR_bd hn
      rw [List.length_drop] at hb
      have := enc_length (v : Int)
      omega
  split at h
  · rename_i h1
    cases hn : numR 10 7 (l.drop 2) with
    | none => rw [hn] at h; cases h
    | some p =>
      obtain ⟨v, m⟩ := p
      rw [hn] at h
      simp only [Option.map_some, Option.some.injEq, Prod.mk.injEq] at h
      obtain ⟨rfl, rfl⟩ := h
      have hb := numR_bd hn
      rw [List.length_drop] at hb
      have := enc_length (v : Int)
      omega
  · cases h
/-- What bytes up to a sign say, and how many they are. -/
def sayF (e b : Nat) : Nat → List UInt8 → Option (List UInt8 × Nat)
  | 0, _ => some ([], 0)
  | f + 1, [] => some ([], 0)
  | f + 1, c :: t => if c.toNat = e then some ([], 0) else if c.toNat = b then none else if c.toNat = 38 then
    match refJ (c :: t) with
    | none => none
    | some (x, n) => (sayF e b f ((c :: t).drop n)).map fun p => (x ++ p.1, n + p.2)
    else (sayF e b f t).map fun p => (c :: p.1, 1 + p.2)
def sayJ (e b : Nat) (l : List UInt8) : Option (List UInt8 × Nat) := sayF e b l.length l
theorem sayF_more (e b : Nat) : ∀ (f g : Nat) (l : List UInt8), l.length ≤ f → l.length ≤ g → sayF e b f l = sayF e b g l
  | 0, 0, _, _, _ => rfl
  | 0, g + 1, l, hf, _ => by
    have : l = [] := List.length_eq_zero_iff.1 (by omega)
    subst this; rfl
  | f + 1, 0, l, _, hg => by
    have : l = [] := List.length_eq_zero_iff.1 (by omega)
    subst this; rfl
  | f + 1, g + 1, [], _, _ => rfl
  | f + 1, g + 1, c :: t, hf, hg => by
    simp only [List.length_cons] at hf hg
    unfold sayF
    split
    · rfl
    · split
      · rfl
      · split
        · split
          · rfl
          · rename_i x n h
            have hb := refJ_bd h
            have hl : ((c :: t).drop n).length ≤ f ∧ ((c :: t).drop n).length ≤ g := by rw [List.length_drop, List.length_cons]; omega
            rw [sayF_more e b f g _ hl.1 hl.2]
        · rw [sayF_more e b f g t (by omega) (by omega)]
theorem sayJ_nil (e b : Nat) : sayJ e b [] = some ([], 0) := rfl
theorem sayJ_cons (e b : Nat) (c : UInt8) (t : List UInt8) : sayJ e b (c :: t) = if c.toNat = e then some ([], 0) else if c.toNat = b then none else if c.toNat = 38 then
    match refJ (c :: t) with
    | none => none
    | some (x, n) => (sayJ e b ((c :: t).drop n)).map fun p => (x ++ p.1, n + p.2)
    else (sayJ e b t).map fun p => (c :: p.1, 1 + p.2) := by
  unfold sayJ
  rw [List.length_cons, sayF]
  split
  · rfl
  · split
    · rfl
    · split
      · split
        · rfl
        · rename_i x n h
          have hb := refJ_bd h
          have hl : ((c :: t).drop n).length ≤ t.length := by rw [List.length_drop, List.length_cons]; omega
          rw [sayF_more e b t.length _ _ hl (Nat.le_refl _)]
      · rfl
theorem sayJ_bd (e b : Nat) : ∀ (m : Nat) (l : List UInt8), l.length ≤ m → ∀ x n, sayJ e b l = some (x, n) → n ≤ l.length ∧ x.length ≤ 4 * n ∧ (n < l.length → bt l n = e)
  | m, [], _, x, n, h => by
    rw [sayJ_nil] at h
    cases h
    exact ⟨Nat.le_refl _, by simp, fun h => absurd h (by simp)⟩
  | 0, _ :: _, hl, _, _, _ => by simp at hl
  | m + 1, c :: t, hl, x, n, h => by
    simp only [List.length_cons] at hl
    rw [sayJ_cons] at h
    split at h
    · rename_i he
      cases h
      exact ⟨by simp, by simp, fun _ => by simp [bt, he]⟩
    · split at h
      · cases h
      · split at h
        · split at h
          · cases h
          · rename_i y k hr
            have hb := refJ_bd hr
            have hl2 : ((c :: t).drop k).length ≤ m := by rw [List.length_drop, List.length_cons]; omega
            cases hs : sayJ e b ((c :: t).drop k) with
            | none => rw [hs] at h; cases h
            | some p =>
              obtain ⟨z, j⟩ := p
              rw [hs] at h
              simp only [Option.map_some, Option.some.injEq, Prod.mk.injEq] at h
              obtain ⟨rfl, rfl⟩ := h
              have hi := sayJ_bd e b m _ hl2 z j hs
              rw [List.length_drop] at hi
              refine ⟨by omega, by rw [List.length_append]; omega, fun hlt => ?_⟩
              have := hi.2.2 (by omega)
              rwa [bt_drop] at this
        · cases hs : sayJ e b t with
          | none => rw [hs] at h; cases h
          | some p =>
            obtain ⟨z, j⟩ := p
            rw [hs] at h
            simp only [Option.map_some, Option.some.injEq, Prod.mk.injEq] at h
            obtain ⟨rfl, rfl⟩ := h
            have hi := sayJ_bd e b m t (by omega) z j hs
            refine ⟨by simp only [List.length_cons]; omega, by simp only [List.length_cons]; omega, fun hlt => ?_⟩
            have := hi.2.2 (by simp only [List.length_cons] at hlt; omega)
            rw [← this, Nat.add_comm 1 j]
            simp [bt]
def elemL : List (List UInt8) := [[97], [98], [98, 114], [99, 111, 100, 101], [100, 105, 118], [101, 109], [104, 49], [104, 50], [104, 51], [104, 114], [105], [105, 109, 103], [108, 105], [111, 108], [112], [112, 114, 101], [115, 112, 97, 110], [115, 116, 114, 111, 110, 103], [116, 97, 98, 108, 101], [116, 98, 111, 100, 121], [116, 100], [116, 104], [116, 104, 101, 97, 100], [116, 114], [117], [117, 108]]
def attrL : List (List UInt8) := [[97, 108, 116], [99, 108, 97, 115, 115], [99, 111, 108, 115, 112, 97, 110], [104, 114, 101, 102], [105, 100], [114, 111, 119, 115, 112, 97, 110], [115, 114, 99], [116, 105, 116, 108, 101], [119, 105, 100, 116, 104]]
def voidL : List (List UInt8) := [[98, 114], [104, 114], [105, 109, 103]]
def isElem (x : List UInt8) : Bool := decide (x ∈ elemL)
def isAttr (x : List UInt8) : Bool := decide (x ∈ attrL)
def isVoid (x : List UInt8) : Bool := decide (x ∈ voidL)
def sEq : List UInt8 := [61, 34]
def sCl : List UInt8 := [60, 47]
/-- The attribute that stands at a place; the place behind it. -/
def attJ (l : List UInt8) (k : Nat) : Option (Att × Nat) :=
  if isAttr (runT nameB l k) = true ∧ atS l sEq (runE nameB l k) = true then
    match sayJ 34 60 (l.drop (runE nameB l k + 2)) with
    | none => none
    | some (v, m) => if bt l (runE nameB l k + 2 + m) = 34 then some (⟨runT nameB l k, v, runE nameB l k + 2, runE nameB l k + 2 + m⟩, runE nameB l k + 2 + m + 1) else none
  else none
/-- The attributes from a place on; the place behind the opening. -/
def opnF : Nat → List UInt8 → Nat → List Att → Option (List Att × Nat)
  | 0, _, _, _ => none
  | f + 1, l, k, az => if bt l (runE gapB l k) = 62 then some (az, runE gapB l k + 1) else
    match attJ l (runE gapB l k) with
    | none => none
    | some (a, k2) => if runE gapB l k = k ∨ (az.any fun b => decide (b.name = a.name)) = true then none else opnF f l k2 (az ++ [a])
def opnJ (l : List UInt8) (k : Nat) (az : List Att) : Option (List Att × Nat) := opnF (l.length + 1 - k) l k az
theorem attJ_bd {l : List UInt8} {k : Nat} {a : Att} {k2 : Nat} (hk : k ≤ l.length) (h : attJ l k = some (a, k2)) : k < k2 ∧ k2 ≤ l.length ∧ a.to ≤ l.length ∧ a.frm ≤ a.to ∧ a.val.length ≤ 4 * l.length ∧ a.name.length ≤ l.length := by
  unfold attJ at h
  split at h
  · rename_i h1
    split at h
    · cases h
    · rename_i v m hs
      split at h
      · rename_i h2
        simp only [Option.some.injEq, Prod.mk.injEq] at h
        obtain ⟨rfl, rfl⟩ := h
        have hp := bt_pos_lt (l := l) (k := runE nameB l k + 2 + m) (by omega)
        have hg := runE_ge nameB l k
        have hb := sayJ_bd 34 60 _ _ (Nat.le_refl _) v m hs
        rw [List.length_drop] at hb
        have hn := runT_len (P := nameB) hk
        dsimp only
        refine ⟨by omega, by omega, by omega, by omega, by omega, by omega⟩
      · cases h
  · cases h
theorem opnF_more : ∀ (f g : Nat) (l : List UInt8) (k : Nat) (az : List Att), k ≤ l.length → l.length + 1 - k ≤ f → l.length + 1 - k ≤ g → opnF f l k az = opnF g l k az
  | 0, _, l, k, az, hk, hf, _ => by omega
  | _ + 1, 0, l, k, az, hk, _, hg => by omega
  | f + 1, g + 1, l, k, az, hk, hf, hg => by
    unfold opnF
    split
    · rfl
    · split
      · rfl
      · rename_i a k2 h
        have hb := attJ_bd (runE_le gapB l k hk) h
        have := runE_ge gapB l k
        split
        · rfl
        · exact opnF_more f g l k2 _ (by omega) (by omega) (by omega)
theorem opnJ_step (l : List UInt8) (k : Nat) (az : List Att) (hk : k ≤ l.length) : opnJ l k az = if bt l (runE gapB l k) = 62 then some (az, runE gapB l k + 1) else
    match attJ l (runE gapB l k) with
    | none => none
    | some (a, k2) => if runE gapB l k = k ∨ (az.any fun b => decide (b.name = a.name)) = true then none else opnJ l k2 (az ++ [a]) := by
  unfold opnJ
  obtain ⟨m, hm⟩ : ∃ m, l.length + 1 - k = m + 1 := ⟨l.length - k, by omega⟩
  rw [hm, opnF]
  split
  · rfl
  · split
    · rfl
    · rename_i a k2 h
      have hb := attJ_bd (runE_le gapB l k hk) h
      have := runE_ge gapB l k
      split
      · rfl
      · exact opnF_more _ _ l k2 _ (by omega) (by omega) (by omega)
theorem opnJ_bd (l : List UInt8) : ∀ (m k : Nat) (az bs : List Att) (e : Nat), l.length ≤ k + m → k ≤ l.length → opnJ l k az = some (bs, e) → k < e ∧ e ≤ l.length ∧ bs.length + k ≤ az.length + e
  | m, k, az, bs, e, hm, hk, h => by
    rw [opnJ_step l k az hk] at h
    have hg := runE_ge gapB l k
    split at h
    · rename_i h1
      cases h
      have := bt_pos_lt (l := l) (k := runE gapB l k) (by omega)
      omega
    · split at h
      · cases h
      · rename_i a k2 ha
        have hb := attJ_bd (runE_le gapB l k hk) ha
        split at h
        · cases h
        · rename_i hn
          match m with
          | 0 => omega
          | m + 1 =>
            have := opnJ_bd l m k2 (az ++ [a]) bs e (by omega) (by omega) h
            simp only [List.length_append, List.length_cons, List.length_nil] at this
            omega
/-- The token that stands at a place. -/
def oneG (l : List UInt8) (k : Nat) : Option Tg :=
  if atS l sCl k = true then
    (if isElem (runT nameB l (k + 2)) = true ∧ isVoid (runT nameB l (k + 2)) = false ∧ bt l (runE nameB l (k + 2)) = 62 then some ⟨99, runT nameB l (k + 2), [], [], k, runE nameB l (k + 2) + 1⟩ else none)
  else if bt l k = 60 then
    (if isElem (runT nameB l (k + 1)) = true then (opnJ l (runE nameB l (k + 1)) []).map fun p => ⟨111, runT nameB l (k + 1), [], p.1, k, p.2⟩ else none)
  else (sayJ 60 62 (l.drop k)).map fun p => ⟨116, [], p.1, [], k, k + p.2⟩
end Go.Proofs.Ytlogjghbdnaedaa
