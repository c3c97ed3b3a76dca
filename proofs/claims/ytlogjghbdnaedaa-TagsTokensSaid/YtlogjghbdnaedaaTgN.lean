/- Plain: nested tokens, and the same tokens. -/
import Derived.Test.YtlogjghbdnaedaaTgP
namespace Go.Proofs.Ytlogjghbdnaedaa
set_option linter.unusedVariables false
set_option linter.unusedSimpArgs false
/-- Are tokens nested, behind what is open? -/
def nestF : List (List UInt8) → List Tg → Bool
  | op, [] => decide (op = [])
  | op, t :: ts =>
    if t.kind = 111 ∧ isVoid t.name = false then (if 32 ≤ op.length then false else nestF (op ++ [t.name]) ts)
    else if t.kind = 99 then (if op ≠ [] ∧ op.getD (op.length - 1) [] = t.name then nestF (op.take (op.length - 1)) ts else false)
    else nestF op ts
theorem nestF_nil (op : List (List UInt8)) : nestF op [] = decide (op = []) := rfl
theorem nestF_open {op : List (List UInt8)} {t : Tg} {ts : List Tg} (h : t.kind = 111 ∧ isVoid t.name = false) : nestF op (t :: ts) = if 32 ≤ op.length then false else nestF (op ++ [t.name]) ts := by
  rw [nestF, if_pos h]
theorem nestF_close {op : List (List UInt8)} {t : Tg} {ts : List Tg} (h : t.kind = 99) : nestF op (t :: ts) = if op ≠ [] ∧ op.getD (op.length - 1) [] = t.name then nestF (op.take (op.length - 1)) ts else false := by
  rw [nestF, if_neg (by omega), if_pos h]
theorem nestF_pass {op : List (List UInt8)} {t : Tg} {ts : List Tg} (h : ¬ (t.kind = 111 ∧ isVoid t.name = false)) (h2 : t.kind ≠ 99) : nestF op (t :: ts) = nestF op ts := by
  rw [nestF, if_neg h, if_neg h2]
def nestB (ts : List Tg) : Bool := nestF [] ts
def sameA2 (a b : Att) : Bool := decide (a.name = b.name) && decide (a.val = b.val)
def sameAs : List Att → List Att → Bool
  | [], [] => true
  | a :: az, b :: bs => sameA2 a b && sameAs az bs
  | _, _ => false
def sameG (a b : Tg) : Bool := decide (a.kind = b.kind) && (decide (a.name = b.name) && (decide (a.text = b.text) && sameAs a.atts b.atts))
def sameGs : List Tg → List Tg → Bool
  | [], [] => true
  | a :: az, b :: bs => sameG a b && sameGs az bs
  | _, _ => false
theorem sameAs_len : ∀ {a b : List Att}, a.length ≠ b.length → sameAs a b = false
  | [], [], h => absurd rfl h
  | [], _ :: _, _ => rfl
  | _ :: _, [], _ => rfl
  | a :: az, b :: bs, h => by
    rw [sameAs, sameAs_len (a := az) (b := bs) (by simpa using h), Bool.and_false]
theorem sameGs_len : ∀ {a b : List Tg}, a.length ≠ b.length → sameGs a b = false
  | [], [], h => absurd rfl h
  | [], _ :: _, _ => rfl
  | _ :: _, [], _ => rfl
  | a :: az, b :: bs, h => by
    rw [sameGs, sameGs_len (a := az) (b := bs) (by simpa using h), Bool.and_false]
theorem sameAs_no : ∀ {a b : List Att} {i : Nat} {x y : Att}, a[i]? = some x → b[i]? = some y → sameA2 x y = false → sameAs a b = false
  | [], _, _, _, _, h, _, _ => by simp at h
  | _ :: _, [], _, _, _, _, h, _ => by simp at h
  | a :: az, b :: bs, 0, x, y, h1, h2, h => by
    simp at h1 h2
    subst h1 h2
    rw [sameAs, h, Bool.false_and]
  | a :: az, b :: bs, i + 1, x, y, h1, h2, h => by
    rw [sameAs, sameAs_no (a := az) (b := bs) (by simpa using h1) (by simpa using h2) h, Bool.and_false]
theorem sameGs_no : ∀ {a b : List Tg} {i : Nat} {x y : Tg}, a[i]? = some x → b[i]? = some y → sameG x y = false → sameGs a b = false
  | [], _, _, _, _, h, _, _ => by simp at h
  | _ :: _, [], _, _, _, _, h, _ => by simp at h
  | a :: az, b :: bs, 0, x, y, h1, h2, h => by
    simp at h1 h2
    subst h1 h2
    rw [sameGs, h, Bool.false_and]
  | a :: az, b :: bs, i + 1, x, y, h1, h2, h => by
    rw [sameGs, sameGs_no (a := az) (b := bs) (by simpa using h1) (by simpa using h2) h, Bool.and_false]
theorem sameAs_yes : ∀ {a b : List Att}, a.length = b.length → (∀ (i : Nat) (x y : Att), a[i]? = some x → b[i]? = some y → sameA2 x y = true) → sameAs a b = true
  | [], [], _, _ => rfl
  | [], _ :: _, h, _ => by simp at h
  | _ :: _, [], h, _ => by simp at h
  | a :: az, b :: bs, h, hx => by
    rw [sameAs, hx 0 a b rfl rfl, sameAs_yes (a := az) (b := bs) (by simpa using h) fun i x y h1 h2 => hx (i + 1) x y (by simpa using h1) (by simpa using h2)]; rfl
theorem sameGs_yes : ∀ {a b : List Tg}, a.length = b.length → (∀ (i : Nat) (x y : Tg), a[i]? = some x → b[i]? = some y → sameG x y = true) → sameGs a b = true
  | [], [], _, _ => rfl
  | [], _ :: _, h, _ => by simp at h
  | _ :: _, [], h, _ => by simp at h
  | a :: az, b :: bs, h, hx => by
    rw [sameGs, hx 0 a b rfl rfl, sameGs_yes (a := az) (b := bs) (by simpa using h) fun i x y h1 h2 => hx (i + 1) x y (by simpa using h1) (by simpa using h2)]; rfl
theorem sameA2_self (a : Att) : sameA2 a a = true := by unfold sameA2; simp
theorem sameAs_self (a : List Att) : sameAs a a = true := sameAs_yes rfl fun i x y h1 h2 => by rw [h1] at h2; cases h2; exact sameA2_self x
theorem sameG_self (a : Tg) : sameG a a = true := by unfold sameG; simp [sameAs_self]
theorem sameGs_self (a : List Tg) : sameGs a a = true := sameGs_yes rfl fun i x y h1 h2 => by rw [h1] at h2; cases h2; exact sameG_self x
end Go.Proofs.Ytlogjghbdnaedaa
