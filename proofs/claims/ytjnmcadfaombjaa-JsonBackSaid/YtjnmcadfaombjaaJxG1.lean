/- Plain: what may come of a text is whole, and not too deep (chapter 10). -/
import Derived.Test.YtjnmcadfaombjaaJuW
import Derived.Test.YtjnmcadfaombjaaJsA
import Derived.Test.YtjnmcadfaombjaaJsW
import Derived.Outline
import Derived.WalkKit
import Derived.ProofKit
import Derived.OpenShut
import Derived.ChangeOld
import Derived.Lib.SmallJoins
namespace Go.Proofs.Ytjnmcadfaombjaa
set_option linter.unusedVariables false
set_option linter.unusedSimpArgs false
set_option linter.constructorNameAsVariable false
theorem oneT_short {l : List UInt8} {k : Nat} {t : Tok} (h : oneT l k = some t) (hq : t.kind = 48 ∨ t.kind = 97) : t.text.length ≤ l.length - k := by
  unfold oneT at h
  split at h
  · rename_i h1; cases h; unfold markK at h1; dsimp only at hq; omega
  split at h
  · split at h
    · cases h
    · cases h; dsimp only at hq; omega
  split at h
  · rename_i h1; cases h
    have h2 := (atL_len h1).resolve_right (by decide)
    dsimp only; omega
  split at h
  · rename_i h1; cases h
    have h2 := (atL_len h1).resolve_right (by decide)
    dsimp only; omega
  split at h
  · rename_i h1; cases h
    have h2 := (atL_len h1).resolve_right (by decide)
    dsimp only; omega
  split at h
  · cases h
  · cases h; dsimp only; rw [List.length_take, List.length_drop]; omega
theorem toksF_short : ∀ (f : Nat) (l : List UInt8) (k : Nat) (ts : List Tok), toksF f l k = some ts → ∀ t ∈ ts, (t.kind = 48 ∨ t.kind = 97) → t.text.length ≤ l.length - k
  | 0, l, k, ts, h, t, ht, _ => by unfold toksF at h; cases h; cases ht
  | f + 1, l, k, ts, h, t, ht, hq => by
    unfold toksF at h
    split at h
    · cases h; cases ht
    · split at h
      · have := toksF_short f l (k + 1) ts h t ht hq; omega
      · split at h
        · cases h
        · rename_i h1 h2 u ho
          cases hr : toksF f l u.to with
          | none => rw [hr] at h; cases h
          | some r =>
            rw [hr] at h
            cases h
            rcases List.mem_cons.1 ht with h3 | h3
            · rw [h3] at hq ⊢; exact oneT_short ho hq
            · have := toksF_short f l u.to r hr t h3 hq
              have := (oneT_bd (by omega) ho).2.1
              omega
/-- A text that is one token of a number's or a word's kind: the token stands at its head. -/
theorem alone_head {t : List UInt8} {q : Nat} (hq : q = 48 ∨ q = 97) : aloneB t q = true ↔ ∃ u, oneT t 0 = some u ∧ ¬ blankK (bt t 0) ∧ u.kind = q ∧ u.text = t ∧ u.to = t.length ∧ t ≠ [] := by
  unfold aloneB
  constructor
  · intro h
    split at h
    · rename_i tk ht
      simp only [Bool.and_eq_true, decide_eq_true_eq] at h
      obtain ⟨h1, h2⟩ := h
      have hne : t ≠ [] := by
        rintro rfl
        rw [show toks [] = some [] from rfl] at ht
        cases ht
      have hl := List.length_pos_iff.2 hne
      have hs := toks_step hne
      rw [ht] at hs
      by_cases hb : blankK (bt t 0)
      · exfalso
        unfold toks at ht
        rw [toksAt_step hl, if_pos hb] at ht
        have := toksF_short _ _ _ _ ht tk (by simp) (by rw [h1]; exact hq)
        rw [h2] at this
        omega
      · rw [if_neg hb] at hs
        cases ho : oneT t 0 with
        | none => rw [ho] at hs; cases hs
        | some u =>
          rw [ho] at hs
          dsimp only at hs
          cases hr : toks (t.drop u.to) with
          | none => rw [hr] at hs; cases hs
          | some rs =>
            rw [hr] at hs
            simp only [Option.map_some, Option.some.injEq, List.cons.injEq] at hs
            obtain ⟨rfl, hs2⟩ := hs
            have hbd := oneT_bd hl ho
            refine ⟨tk, rfl, hb, h1, h2, ?_, hne⟩
            rcases Nat.lt_or_ge tk.to t.length with h3 | h3
            · exfalso
              have h4 := oneT_short ho (by rw [h1]; exact hq)
              unfold oneT at ho
              have h5 : tk.text.length = t.length := by rw [h2]
              split at ho
              · cases ho; dsimp only at h5; simp at h5; omega
              split at ho
              · split at ho
                · cases ho
                · cases ho; dsimp only at h1; omega
              split at ho
              · cases ho; dsimp only at h5 h3; simp [tTrue] at h5; omega
              split at ho
              · cases ho; dsimp only at h5 h3; simp [tFalse] at h5; omega
              split at ho
              · cases ho; dsimp only at h5 h3; simp [tNull] at h5; omega
              split at ho
              · cases ho
              · cases ho; dsimp only at h5 h3; rw [List.length_take, List.length_drop] at h5; omega
            · omega
    · cases h
  · rintro ⟨u, ho, hb, h1, h2, h3, hne⟩
    have hs := toks_step hne
    rw [if_neg hb, ho] at hs
    dsimp only at hs
    rw [h3, List.drop_of_length_le (Nat.le_refl _), show toks [] = some [] from rfl] at hs
    simp only [Option.map_some, List.map_nil] at hs
    rw [hs]
    simp [h1, h2]
def isW (t : List UInt8) : Bool := decide (t = [116, 114, 117, 101]) || (decide (t = [102, 97, 108, 115, 101]) || decide (t = [110, 117, 108, 108]))
theorem alone_word (t : List UInt8) : aloneB t 97 = isW t := by
  rw [Bool.eq_iff_iff]
  constructor
  · intro h
    obtain ⟨u, ho, hb, h1, h2, h3, hne⟩ := (alone_head (.inr rfl)).1 h
    unfold oneT at ho
    split at ho
    · rename_i hm; cases ho; unfold markK at hm; dsimp only at h1; omega
    split at ho
    · split at ho
      · cases ho
      · cases ho; dsimp only at h1; omega
    split at ho
    · cases ho; dsimp only at h2; rw [← h2]; decide
    split at ho
    · cases ho; dsimp only at h2; rw [← h2]; decide
    split at ho
    · cases ho; dsimp only at h2; rw [← h2]; decide
    split at ho
    · cases ho
    · cases ho; dsimp only at h1; omega
  · intro h
    unfold isW at h
    simp only [Bool.or_eq_true, decide_eq_true_eq] at h
    rcases h with rfl | rfl | rfl <;> decide +kernel
theorem alone_num (t : List UInt8) : aloneB t 48 = (decide (0 < t.length) && decide (numI (numE t 0) = (t.length : Int))) := by
  rw [Bool.eq_iff_iff]
  simp only [Bool.and_eq_true, decide_eq_true_eq]
  constructor
  · intro h
    obtain ⟨u, ho, hb, h1, h2, h3, hne⟩ := (alone_head (.inl rfl)).1 h
    have hl := List.length_pos_iff.2 hne
    refine ⟨hl, ?_⟩
    unfold oneT at ho
    split at ho
    · rename_i hm; cases ho; unfold markK at hm; dsimp only at h1; omega
    split at ho
    · split at ho
      · cases ho
      · cases ho; dsimp only at h1; omega
    split at ho
    · cases ho; dsimp only at h1; omega
    split at ho
    · cases ho; dsimp only at h1; omega
    split at ho
    · cases ho; dsimp only at h1; omega
    split at ho
    · cases ho
    · rename_i e he
      cases ho
      dsimp only at h3
      rw [he, h3]; rfl
  · rintro ⟨hl, h⟩
    have hne := List.length_pos_iff.1 hl
    cases hn : numE t 0 with
    | none => rw [hn] at h; unfold numI at h; dsimp only at h; omega
    | some e =>
      rw [hn] at h
      have he : e = t.length := by unfold numI at h; dsimp only at h; omega
      subst he
      have hdg : bt t 0 = 45 ∨ isDg (bt t 0) := by
        unfold numE at hn
        split at hn
        · cases hn
        · rename_i hd
          have hp := digE_pos hd
          unfold numStart at hp
          by_cases h45 : bt t 0 = 45
          · exact .inl h45
          · rw [if_neg h45] at hp; exact .inr hp.2
      have hno : ∀ (a : UInt8) (p : List UInt8), 58 < a.toNat → ¬ atL t (a :: p) 0 = true := fun a p ha x => by
        have := atL_hd x
        unfold isDg at hdg; omega
      refine (alone_head (.inl rfl)).2 ⟨⟨48, t, 0, t.length⟩, ?_, ?_, rfl, rfl, rfl, hne⟩
      · unfold oneT
        rw [if_neg (by unfold markK isDg at *; omega), if_neg (by unfold isDg at *; omega), if_neg (show ¬ atL t tTrue 0 = true from hno 116 _ (by decide)), if_neg (show ¬ atL t tFalse 0 = true from hno 102 _ (by decide)), if_neg (show ¬ atL t tNull 0 = true from hno 110 _ (by decide)), hn]
        simp
      · unfold blankK isDg at *; omega
def leafB (q : Nat) (t : List UInt8) (ks : List (List UInt8)) (ns : List Node) : Bool :=
  decide (ks.length + ns.length = 0) && (decide (q ≠ 48) || (decide (0 < t.length) && decide (numI (numE t 0) = (t.length : Int)))) && (decide (q ≠ 97) || isW t)
def shapeB (q : Nat) (t : List UInt8) (ks : List (List UInt8)) (ns : List Node) : Bool :=
  decide (t = []) && ((decide (q = 91) && decide (ks.length = 0)) || (decide (q = 123) && decide (ks.length = ns.length)))
mutual
def wholeN : Node → Bool
  | .mk q t ks ns => good t && (if q = 34 ∨ q = 48 ∨ q = 97 then leafB q t ks ns else shapeB q t ks ns && (ks.all fun k => good k) && wholeL ns)
def wholeL : List Node → Bool
  | [] => true
  | n :: ns => wholeN n && wholeL ns
end
theorem wholeL_at {ns : List Node} : wholeL ns = true ↔ ∀ (j : Nat) (n : Node), ns[j]? = some n → wholeN n = true := by
  induction ns with
  | nil => simp [wholeL]
  | cons m ns ih =>
    rw [wholeL, Bool.and_eq_true, ih]
    constructor
    · rintro ⟨h1, h2⟩ j n hn
      cases j with
      | zero => cases hn; exact h1
      | succ j => exact h2 j n hn
    · intro h
      exact ⟨h 0 m rfl, fun j n hn => h (j + 1) n hn⟩
theorem ok_leaf (q : Nat) (t : List UInt8) (ks : List (List UInt8)) (ns : List Node) (h : q = 34 ∨ q = 48 ∨ q = 97) : okK q t ks ns = leafB q t ks ns := by
  unfold okK leafB
  rcases h with rfl | rfl | rfl
  · simp
  · rw [if_neg (by omega), if_pos (by omega), alone_num]; simp
  · rw [if_neg (by omega), if_pos (by omega), alone_word]; simp
theorem leaf_kids {q : Nat} {t : List UInt8} {ks : List (List UInt8)} {ns : List Node} (h : leafB q t ks ns = true) : ns = [] := by
  unfold leafB at h
  simp only [Bool.and_eq_true, decide_eq_true_eq] at h
  exact List.length_eq_zero_iff.1 (by omega)
theorem ok_shape (q : Nat) (t : List UInt8) (ks : List (List UInt8)) (ns : List Node) (h : ¬ (q = 34 ∨ q = 48 ∨ q = 97)) : okK q t ks ns = (shapeB q t ks ns && (ks.all fun k => good k)) := by
  unfold okK shapeB
  rw [if_neg (by omega), if_neg (by omega)]
  by_cases h1 : q = 91
  · subst h1
    by_cases hk : ks.length = 0
    · have := List.length_eq_zero_iff.1 hk
      subst this; simp
    · simp [hk]
  · rw [if_neg h1]
    by_cases h2 : q = 123
    · subst h2
      rw [if_pos rfl, Bool.eq_iff_iff]
      simp only [Bool.and_eq_true, Bool.or_eq_true, decide_eq_true_eq]
      constructor
      · rintro ⟨⟨a, b⟩, c⟩; exact ⟨⟨c, .inr (by first | exact ⟨rfl, a⟩ | exact ⟨trivial, a⟩)⟩, b⟩
      · rintro ⟨⟨c, a | a⟩, b⟩
        · omega
        · exact ⟨⟨a.2, b⟩, c⟩
    · simp [h1, h2]
mutual
/-- What fits is whole, and not too deep. -/
theorem fits_whole : ∀ (n : Node) (d : Nat), fitsN n d = (wholeN n && decide (d + deepN n ≤ 33))
  | .mk q t ks ns, d => by
    rw [fitsN, wholeN, deepN, fitsL_whole ns (d + 1)]
    by_cases h : q = 34 ∨ q = 48 ∨ q = 97
    · rw [if_pos h, ok_leaf q t ks ns h]
      cases hl : leafB q t ks ns with
      | false => simp
      | true =>
        have := leaf_kids hl
        subst this
        simp only [wholeL, deepL, Bool.true_and, Bool.and_true]
        rw [Bool.eq_iff_iff]
        simp only [Bool.and_eq_true, decide_eq_true_eq]
        by_cases hd : d ≤ 32
        · have : d + (0 + 1) ≤ 33 := by omega
          simp [hd]
        · have : ¬ d + 1 ≤ 33 := by omega
          simp [hd]
    · rw [if_neg h, ok_shape q t ks ns h, Bool.eq_iff_iff]
      simp only [Bool.and_eq_true, decide_eq_true_eq, Bool.or_eq_true]
      constructor
      · rintro ⟨⟨⟨a, b⟩, c, d'⟩, e, f⟩
        exact ⟨⟨b, ⟨c, d'⟩, e⟩, by rcases f with f | f <;> first | (rw [f]; simp [deepL]; omega) | omega⟩
      · rintro ⟨⟨b, ⟨c, d'⟩, e⟩, f⟩
        exact ⟨⟨⟨by omega, b⟩, c, d'⟩, e, by first | (exact .inr (by omega)) | omega⟩
theorem fitsL_whole : ∀ (ns : List Node) (d : Nat), fitsL ns d = (wholeL ns && (decide (ns = []) || decide (d + deepL ns ≤ 33)))
  | [], d => by simp [fitsL, wholeL]
  | n :: ns, d => by
    rw [fitsL, wholeL, deepL, fits_whole n d, fitsL_whole ns d, Bool.eq_iff_iff]
    have hd : 1 ≤ deepN n := by cases n; unfold deepN; omega
    simp only [Bool.and_eq_true, decide_eq_true_eq, Bool.or_eq_true]
    constructor
    · rintro ⟨⟨a, b⟩, c, d' | d'⟩
      · subst d'; exact ⟨⟨a, c⟩, .inr (by simp [deepL]; omega)⟩
      · exact ⟨⟨a, c⟩, .inr (by omega)⟩
    · rintro ⟨⟨a, c⟩, d' | d'⟩
      · cases d'
      · exact ⟨⟨a, by omega⟩, c, .inr (by omega)⟩
end
end Go.Proofs.Ytjnmcadfaombjaa

/- Nodes in memory whose rows may begin anywhere in their block. -/
namespace Go.Proofs.Ytjnmcadfaombjaa
open Go.RowKit
set_option linter.unusedVariables false
set_option linter.unusedSimpArgs false
set_option linter.constructorNameAsVariable false
/-- A row: nil, or cells from the head of a block that 'ok' allows. -/
def RowA (w : World) (ok : Nat → Prop) (v : Value) (n : Nat) (xs : List Value) : Prop :=
  (∃ ao cap, v = .slice ao 0 cap ∧ n = 0 ∧ xs = []) ∨ ∃ g o cap, v = .slice (some ⟨g, o, none⟩) n cap ∧ ok g ∧ g < w.heap.size ∧ ∀ m u, xs[m]? = some u → w.cell? ⟨g, o + m, none⟩ = some u
mutual
def NodeA (w : World) (ok : Nat → Prop) : Node → Value → Prop
  | .mk k t ks ns, v => ∃ kv nv cs, v = .agg #[.int .u8 k, .string (strOf t), kv, nv] ∧ RowA w ok kv ks.length (strC ks) ∧ RowA w ok nv ns.length cs ∧ KidsA w ok ns cs
def KidsA (w : World) (ok : Nat → Prop) : List Node → List Value → Prop
  | [], cs => cs = []
  | n :: ns, cs => ∃ a b c d rest, cs = a :: b :: c :: d :: rest ∧ NodeA w ok n (.agg #[a, b, c, d]) ∧ KidsA w ok ns rest
end
theorem RowA.mono {w w' : World} {ok ok' : Nat → Prop} (hh : ∀ g, ok g → g < w.heap.size → ok' g ∧ g < w'.heap.size ∧ w'.heap[g]? = w.heap[g]?) {v : Value} {n : Nat} {xs : List Value} (h : RowA w ok v n xs) : RowA w' ok' v n xs := by
  rcases h with h | ⟨g, o, cap, hv, hg, hl, hc⟩
  · exact .inl h
  · obtain ⟨h1, h2, h3⟩ := hh g hg hl
    exact .inr ⟨g, o, cap, hv, h1, h2, fun m u hu => (World.cell?_of_block (w := w) (a := ⟨g, o + m, none⟩) h3).trans (hc m u hu)⟩
mutual
theorem NodeA.mono {w w' : World} {ok ok' : Nat → Prop} (hh : ∀ g, ok g → g < w.heap.size → ok' g ∧ g < w'.heap.size ∧ w'.heap[g]? = w.heap[g]?) : ∀ (n : Node) (v : Value), NodeA w ok n v → NodeA w' ok' n v
  | .mk k t ks ns, v, h => by
    unfold NodeA at h ⊢
    obtain ⟨kv, nv, cs, hv, h1, h2, h3⟩ := h
    exact ⟨kv, nv, cs, hv, h1.mono hh, h2.mono hh, KidsA.mono hh ns cs h3⟩
theorem KidsA.mono {w w' : World} {ok ok' : Nat → Prop} (hh : ∀ g, ok g → g < w.heap.size → ok' g ∧ g < w'.heap.size ∧ w'.heap[g]? = w.heap[g]?) : ∀ (ns : List Node) (cs : List Value), KidsA w ok ns cs → KidsA w' ok' ns cs
  | [], cs, h => by unfold KidsA at h ⊢; exact h
  | n :: ns, cs, h => by
    unfold KidsA at h ⊢
    obtain ⟨a, b, c, d, rest, hc, h1, h2⟩ := h
    exact ⟨a, b, c, d, rest, hc, NodeA.mono hh n _ h1, KidsA.mono hh ns rest h2⟩
end
theorem KidsA.snoc {w : World} {ok : Nat → Prop} {n : Node} {a b c d : Value} (hn : NodeA w ok n (.agg #[a, b, c, d])) : ∀ (ns : List Node) (cs : List Value), KidsA w ok ns cs → KidsA w ok (ns ++ [n]) (cs ++ [a, b, c, d])
  | [], cs, h => by
    unfold KidsA at h
    subst h
    rw [List.nil_append, List.nil_append]
    unfold KidsA
    exact ⟨a, b, c, d, [], rfl, hn, by unfold KidsA; rfl⟩
  | m :: ns, cs, h => by
    unfold KidsA at h
    obtain ⟨a', b', c', d', rest, hc, h1, h2⟩ := h
    subst hc
    rw [List.cons_append]
    unfold KidsA
    exact ⟨a', b', c', d', rest ++ [a, b, c, d], rfl, h1, KidsA.snoc hn ns rest h2⟩
theorem KidsA.length {w : World} {ok : Nat → Prop} : ∀ (ns : List Node) (cs : List Value), KidsA w ok ns cs → cs.length = ns.length * 4
  | [], cs, h => by unfold KidsA at h; subst h; rfl
  | m :: ns, cs, h => by
    unfold KidsA at h
    obtain ⟨a', b', c', d', rest, hc, h1, h2⟩ := h
    subst hc
    have := KidsA.length ns rest h2
    simp only [List.length_cons]; omega
theorem KidsA.at {w : World} {ok : Nat → Prop} : ∀ (ns : List Node) (cs : List Value) (j : Nat) (n : Node), KidsA w ok ns cs → ns[j]? = some n →
    ∃ a b c d, cs[j * 4]? = some a ∧ cs[j * 4 + 1]? = some b ∧ cs[j * 4 + 2]? = some c ∧ cs[j * 4 + 3]? = some d ∧ NodeA w ok n (.agg #[a, b, c, d])
  | [], cs, j, n, _, hn => by simp at hn
  | m :: ns, cs, 0, n, h, hn => by
    unfold KidsA at h
    obtain ⟨a', b', c', d', rest, hc, h1, h2⟩ := h
    subst hc
    simp only [List.getElem?_cons_zero, Option.some.injEq] at hn
    subst hn
    exact ⟨a', b', c', d', rfl, rfl, rfl, rfl, h1⟩
  | m :: ns, cs, j + 1, n, h, hn => by
    unfold KidsA at h
    obtain ⟨a', b', c', d', rest, hc, h1, h2⟩ := h
    subst hc
    obtain ⟨a, b, c, d, k1, k2, k3, k4, k5⟩ := KidsA.at ns rest j n h2 (by simpa using hn)
    refine ⟨a, b, c, d, ?_, ?_, ?_, ?_, k5⟩
    · rw [show (j + 1) * 4 = j * 4 + 4 by omega]; exact k1
    · rw [show (j + 1) * 4 + 1 = (j * 4 + 1) + 4 by omega]; exact k2
    · rw [show (j + 1) * 4 + 2 = (j * 4 + 2) + 4 by omega]; exact k3
    · rw [show (j + 1) * 4 + 3 = (j * 4 + 3) + 4 by omega]; exact k4
theorem RowA.own {w : World} {base : Nat} {e : TypeId} {size n : Nat} {v : Value} {xs : List Value} {ok : Nat → Prop} (h : w.ownsRow base e size v n xs) (hok : ∀ g, v.ownBlock = some g → base ≤ g → ok g) : RowA w ok v n xs := by
  rcases h.2 with ⟨rfl, h0⟩ | ⟨g, cap, cur, rfl, hb, hh, r1, r2, r3, r4⟩
  · exact .inl ⟨_, _, rfl, h0, List.length_eq_zero_iff.1 (by rw [h.1, h0, Nat.zero_mul])⟩
  · refine .inr ⟨g, 0, cap, rfl, hok g rfl hb, (Array.getElem?_eq_some_iff.1 hh).1, fun m u hu => ?_⟩
    have h3 : (⟨g, 0, none⟩ : Addr).add m = ⟨g, 0 + m, none⟩ := by rw [Addr.add_lit]
    rw [← h3]
    exact h.cells (g := g) rfl m u hu

theorem RowW.toA {w : World} {ok : Nat → Prop} {v : Value} {n : Nat} {xs : List Value} (h : RowW w ok v n xs) : RowA w ok v n xs := by
  rcases h with h | ⟨g, cap, hv, hg, hl, hc⟩
  · exact .inl ⟨_, _, h⟩
  · exact .inr ⟨g, 0, cap, hv, hg, hl, fun m u hu => by rw [Nat.zero_add]; exact hc m u hu⟩
mutual
theorem NodeW.toA {w : World} {ok : Nat → Prop} : ∀ (n : Node) (v : Value), NodeW w ok n v → NodeA w ok n v
  | .mk k t ks ns, v, h => by
    unfold NodeW at h
    unfold NodeA
    obtain ⟨kv, nv, cs, hv, h1, h2, h3⟩ := h
    exact ⟨kv, nv, cs, hv, h1.toA, h2.toA, KidsW.toA ns cs h3⟩
theorem KidsW.toA {w : World} {ok : Nat → Prop} : ∀ (ns : List Node) (cs : List Value), KidsW w ok ns cs → KidsA w ok ns cs
  | [], cs, h => by unfold KidsW at h; unfold KidsA; exact h
  | n :: ns, cs, h => by
    unfold KidsW at h
    unfold KidsA
    obtain ⟨a, b, c, d, rest, hc, h1, h2⟩ := h
    exact ⟨a, b, c, d, rest, hc, NodeW.toA n _ h1, KidsW.toA ns rest h2⟩
end
/-- A row of texts in memory. -/
def TxtA (w : World) (ks : List (List UInt8)) (v : Value) : Prop := ∃ ao cap, v = .slice ao ks.length cap ∧
  ∀ (j : Nat) (u : List UInt8), ks[j]? = some u → ∃ g o, ao = some ⟨g, o, none⟩ ∧ g < w.heap.size ∧ w.cell? ⟨g, o + j, none⟩ = some (.string (strOf u))
theorem TxtA.of {w : World} {ok : Nat → Prop} {v : Value} {ks : List (List UInt8)} (h : RowA w ok v ks.length (strC ks)) : TxtA w ks v := by
  rcases h with ⟨ao, cap, hv, h0, _⟩ | ⟨g, o, cap, hv, _, hl, hc⟩
  · exact ⟨ao, cap, by rw [hv, h0], fun j u hu => by rw [List.getElem?_eq_none (by omega)] at hu; cases hu⟩
  · exact ⟨_, cap, hv, fun j u hu => ⟨g, o, rfl, hl, hc j _ (strC_at hu)⟩⟩
theorem txtA_below {w w' : World} {ks : List (List UInt8)} {v : Value} (h : TxtA w ks v) (hb : Below w.heap.size w w') : TxtA w' ks v := by
  obtain ⟨ao, cap, hv, hc⟩ := h
  refine ⟨ao, cap, hv, fun j u hu => ?_⟩
  obtain ⟨g, o, h1, h2, h3⟩ := hc j u hu
  exact ⟨g, o, h1, Nat.lt_of_lt_of_le h2 hb.size, (hb.cell (p := ⟨g, o + j, none⟩) h2).trans h3⟩
/-- A kid in memory. -/
theorem kidA_at {w wr : World} {ok : Nat → Prop} {v : Value} {ns : List Node} {cs : List Value} (hr : RowA w ok v ns.length cs) (hk : KidsA w ok ns cs) {j : Nat} {n : Node} (hn : ns[j]? = some n) (hb : Below w.heap.size w wr) :
    ∃ (g o cap : Nat) (a b c d : Value), v = .slice (some ⟨g, o, none⟩) ns.length cap ∧ wr.cell? ⟨g, o + j * 4, none⟩ = some a ∧ wr.cell? ⟨g, o + j * 4 + 1, none⟩ = some b ∧ wr.cell? ⟨g, o + j * 4 + 2, none⟩ = some c ∧ wr.cell? ⟨g, o + j * 4 + 3, none⟩ = some d ∧ NodeA wr ok n (.agg #[a, b, c, d]) := by
  obtain ⟨a, b, c, d, e1, e2, e3, e4, x⟩ := KidsA.at ns cs j n hk hn
  rcases hr with ⟨_, _, _, h0, hc⟩ | ⟨g, o, cap, hv, hg, hl, hc⟩
  · have h1 := List.length_eq_zero_iff.1 h0
    subst h1; simp at hn
  · exact ⟨g, o, cap, a, b, c, d, hv, (hb.cell (p := ⟨g, o + j * 4, none⟩) hl).trans (hc _ _ e1), (hb.cell (p := ⟨g, o + j * 4 + 1, none⟩) hl).trans (by rw [Nat.add_assoc]; exact hc _ _ e2), (hb.cell (p := ⟨g, o + j * 4 + 2, none⟩) hl).trans (by rw [Nat.add_assoc]; exact hc _ _ e3), (hb.cell (p := ⟨g, o + j * 4 + 3, none⟩) hl).trans (by rw [Nat.add_assoc]; exact hc _ _ e4),
      NodeA.mono (fun g hg hl => ⟨hg, Nat.lt_of_lt_of_le hl hb.size, hb.block g hl⟩) n _ x⟩
theorem rowA_len {w : World} {ok : Nat → Prop} {v : Value} {n : Nat} {xs : List Value} (h : RowA w ok v n xs) : ∃ o c, v = .slice o n c := by
  rcases h with ⟨_, _, hv, h0, _⟩ | ⟨g, o, cap, hv, _⟩
  · exact ⟨_, _, by rw [hv, h0]⟩
  · exact ⟨_, _, hv⟩
theorem nodeA_shape {w : World} {ok : Nat → Prop} {n : Node} {a b c d : Value} (h : NodeA w ok n (.agg #[a, b, c, d])) :
    ∃ (u1 : Int) (u2 : ByteArray) (u3 : Option Addr) (u4 u5 : Nat) (u6 : Option Addr) (u7 u8 : Nat), a = .int .u8 u1 ∧ b = .string u2 ∧ c = .slice u3 u4 u5 ∧ d = .slice u6 u7 u8 := by
  obtain ⟨k, t, ks, ns⟩ := n
  unfold NodeA at h
  obtain ⟨kv, nv, cs, hv, h1, h2, _⟩ := h
  obtain ⟨o1, c1, rfl⟩ := rowA_len h1
  obtain ⟨o2, c2, rfl⟩ := rowA_len h2
  simp only [Value.agg.injEq, Array.mk.injEq, List.cons.injEq, and_true] at hv
  obtain ⟨rfl, rfl, rfl, rfl⟩ := hv
  exact ⟨_, _, _, _, _, _, _, _, rfl, rfl, rfl, rfl⟩
end Go.Proofs.Ytjnmcadfaombjaa

/- Walks: how deep a node is whose rows may begin anywhere. -/
namespace Go.Proofs.Ytjnmcadfaombjaa
open Go.RowKit
set_option linter.unusedVariables false
set_option linter.unusedSimpArgs false
set_option linter.constructorNameAsVariable false
set_option maxRecDepth 100000 in
set_option maxHeartbeats 4000000 in
theorem rdeepA_any : ∀ (d : Nat) (n : Node) (ok : Nat → Prop) (v : Value) (w : World), sizeN n ≤ d → d ≤ 1000000 → NodeA w ok n v →
    Calls Try.prog 30 #[v] w fun e w' => e = .returned (.int .i64 (deepN n)) ∧ Below w.heap.size w w'
  | 0, n, ok, v, w, hd, _, _ => by have := sizeN_pos n; omega
  | d + 1, .mk q t ks ns, ok, v, w, hd, hd2, hn => by
    have HIH := Lib.hid (rdeepA_any d)
    unfold NodeA at hn
    obtain ⟨kv, nv, cs, rfl, h1, h2, h3⟩ := hn
    obtain ⟨o1, c1, rfl⟩ := rowA_len h1
    obtain ⟨o2, c2, rfl⟩ := rowA_len h2
    have HR := Lib.hid h2
    have HK := Lib.hid h3
    have HD : Hid (deepN (.mk q t ks ns) = deepL ns + 1) := by show _ = _; unfold deepN; rfl
    have hsz : sizeL ns ≤ d := by unfold sizeN at hd; omega
    have hln := sizeL_length ns
    have hdl := deepL_le_size ns
    generalize strOf t = x at *
    clear h1 h2 h3 hd
    go_enter Try.func30, Try.ntmps30
    go_wp2_with fail
    have HB0 : Hid (Blk (w.alloc (.cells #[.int .u8 q, .string x, .slice o1 ks.length c1, .slice o2 ns.length c2] 44)) w.heap.size 44 #[.int .u8 q, .string x, .slice o1 ks.length c1, .slice o2 ns.length c2]) := Blk.new w _ _
    go_loopw [3, 4] (fun y z wr => ∃ i : Nat, z = .int .i64 i ∧ y = .int .i64 (deepL (ns.take i)) ∧ i ≤ ns.length ∧ Below w.heap.size w wr ∧ Blk wr w.heap.size 44 #[.int .u8 q, .string x, .slice o1 ks.length c1, .slice o2 ns.length c2]) (fun _ z _ => ns.length - (intOf z).toNat)
    case atStart => exact ⟨0, rfl, by simp [deepL], Nat.zero_le _, (Below.refl _ w).alloc (Nat.le_refl _) _, HB0.out⟩
    case round =>
      obtain ⟨i, rfl, rfl, hi, hb, hB⟩ := hrel
      clear HB0
      have n3 := hB.cell 3
      have hdt := deepL_take_le i ns
      by_cases hlt : i < ns.length
      · obtain ⟨n, hn⟩ : ∃ n, ns[i]? = some n := ⟨_, List.getElem?_eq_getElem hlt⟩
        obtain ⟨g, o, cap', a, b, c, e, hv, x0, x1, x2, x3, hN⟩ := kidA_at HR.out HK.out hn hb
        simp only [Value.slice.injEq] at hv
        obtain ⟨rfl, _, rfl⟩ := hv
        have hsn := sizeL_mem ns i n hn
        have hdn := deep_le_size n
        have HI := Lib.hid (HIH.out n ok _ wr (by omega) (by omega) hN)
        have HT := Lib.hid (deepL_take i ns n hn)
        have hmx : max ((deepL (ns.take i) : Nat) : Int) ((deepN n : Nat) : Int) = ((deepL (ns.take (i + 1)) : Nat) : Int) := by rw [HT.out]; omega
        have HMX := Lib.hid hmx
        have hBl := hB.lt
        have a1 : (i : Int) < ns.length := by omega
        clear hn hN hmx HK HR HIH
        go_wp2_with (go_at_call 30; refine (HI.out).mono ?_; rintro e w2 ⟨rfl, hb2⟩)
        go_roundw
        case rel => exact ⟨i + 1, by go_num, by rw [← HMX.out], hlt, hb.trans (hb2.mono hb.size), hB.below hb2 hBl⟩
        case measure => simp [intOf]; omega
      · have hE : ns.take i = ns := List.take_of_length_le (by omega)
        rw [hE] at hdt ⊢
        have a1 : ¬ ((i : Int) < ns.length) := by omega
        clear HK HR HIH
        go_wp2_with fail
        go_ret
        exact ⟨by rw [HD.out]; congr 2, hb⟩
end Go.Proofs.Ytjnmcadfaombjaa

/- Walks: rows of texts that may begin anywhere: the document's Same, slices.ContainsFunc. -/
namespace Go.Proofs.Ytjnmcadfaombjaa
open Go.RowKit
set_option linter.unusedVariables false
set_option linter.unusedSimpArgs false
set_option linter.constructorNameAsVariable false
set_option maxRecDepth 100000 in
set_option maxHeartbeats 1000000 in
theorem rsameA_any (ks ks2 : List (List UInt8)) (v v2 : Value) (w : World) (h1 : TxtA w ks v) (h2 : TxtA w ks2 v2) (l1 : ks.length ≤ 1000000) (l2 : ks2.length ≤ 1000000) :
    Calls Try.prog 31 #[v, v2] w fun e w' => e = .returned (.bool (decide (ks = ks2))) ∧ Below w.heap.size w w' := by
  obtain ⟨a1, p1, rfl, C1⟩ := h1
  obtain ⟨a2, p2, rfl, C2⟩ := h2
  by_cases hn : ks.length = ks2.length
  · have HC2 := Lib.hid C2
    have HC1 := Lib.hid C1
    have HN := Lib.hid hn
    have hq : ((ks.length : Int) == (ks.length : Int)) = true := by simp
    rw [← hn]
    clear C1 C2 hn l2
    go_enter Try.func31, Try.ntmps31
    go_wp2_with fail
    go_loopw [5] (fun z wr => ∃ i : Nat, z = .int .i64 i ∧ i ≤ ks.length ∧ (∀ j, j < i → ks[j]? = ks2[j]?) ∧ Below w.heap.size w wr) (fun z _ => ks.length - (intOf z).toNat)
    case atStart => exact ⟨0, rfl, Nat.zero_le _, fun j hj => by omega, Below.refl _ _⟩
    case round =>
      obtain ⟨i, rfl, hi, hs, hb⟩ := hrel
      have HS := Lib.hid hs
      have HB := Lib.hid hb
      clear hs hb
      by_cases hlt : i < ks.length
      · obtain ⟨u, hu⟩ : ∃ u, ks[i]? = some u := ⟨_, List.getElem?_eq_getElem hlt⟩
        obtain ⟨u2, hu2⟩ : ∃ u, ks2[i]? = some u := ⟨_, List.getElem?_eq_getElem (by have := HN.out; omega)⟩
        obtain ⟨g1, z1, rfl, hg1, d1⟩ := HC1.out i u hu
        obtain ⟨g2, z2, rfl, hg2, d2⟩ := HC2.out i u2 hu2
        have e1 := (HB.out.cell (p := ⟨g1, z1 + i, none⟩) hg1).trans d1
        have e2 := (HB.out.cell (p := ⟨g2, z2 + i, none⟩) hg2).trans d2
        obtain ⟨b, hb⟩ : ∃ b, decide (u = u2) = b := ⟨_, rfl⟩
        have hb2 := (str_same u u2).trans hb
        have HBB := Lib.hid hb
        generalize strOf u = x at *
        generalize strOf u2 = y at *
        have HU := Lib.hid hu
        have HU2 := Lib.hid hu2
        clear d1 d2 hb hu hu2
        go_wp2_with fail
        go_region_held3 (fun w' => w'.cell? ⟨g1, z1 + i, none⟩ = some (.string x) ∧ w'.cell? ⟨g2, z2 + i, none⟩ = some (.string y)) (exact ⟨e1, e2⟩) (fail)
        cases b
        · go_wp2_with fail
          go_ret
          refine ⟨?_, HB.out.drew⟩
          rw [decide_eq_false (fun h => of_decide_eq_false HBB.out (by subst h; exact Option.some.inj (HU.out.symm.trans HU2.out)))]; rfl
        · go_wp2_with fail
          go_roundw
          case rel =>
            refine ⟨i + 1, by go_num, by omega, fun j hj => ?_, HB.out.drew⟩
            rcases Nat.lt_or_ge j i with h | h
            · exact HS.out j h
            · obtain rfl : j = i := by omega
              rw [HU.out, HU2.out, of_decide_eq_true HBB.out]
          case measure => simp [intOf]; omega
      · go_wp2_with fail
        go_ret
        refine ⟨?_, HB.out⟩
        rw [decide_eq_true (List.ext_getElem? fun j => ?_)]
        · rfl
        · rcases Nat.lt_or_ge j i with h | h
          · exact HS.out j h
          · rw [List.getElem?_eq_none (by omega), List.getElem?_eq_none (by have := HN.out; omega)]
  · have hq : ((ks.length : Int) == (ks2.length : Int)) = false := by simp; omega
    have HV : Hid (decide (ks = ks2) = false) := decide_eq_false (fun h => hn (by rw [h]))
    clear C1 C2
    go_enter Try.func31, Try.ntmps31
    go_wp2_with fail
    go_ret
    exact ⟨by rw [HV.out]; rfl, Below.refl _ _⟩
set_option maxHeartbeats 1000000 in
theorem idxSA_any (ks : List (List UInt8)) (v : Value) (w : World) (h : TxtA w ks v) (hl : ks.length ≤ 1000000) (hk : ∀ u ∈ ks, u.length ≤ 9223372036854775807) :
    ∃ r : Int, decide (0 ≤ r) = (ks.any fun k => !good k) ∧ Calls Try.prog 68 #[v, .func (Fn.func 49) #[] #[]] w fun e w' => e = .returned (.int .i64 r) ∧ Below w.heap.size w w' := by
  have HF := Lib.hid (fun s w hs => fits1_any s w hs)
  obtain ⟨ao, cap, rfl, C⟩ := h
  rcases first_bad ks with ⟨i, u, hu, hg, hj⟩ | hall
  · have hi := (List.getElem?_eq_some_iff.1 hu).1
    refine ⟨i, ?_, ?_⟩
    · rw [decide_eq_true (by omega)]
      symm
      rw [List.any_eq_true]
      exact ⟨u, List.mem_of_getElem? hu, by rw [hg]; rfl⟩
    · have HJ := Lib.hid hj
      have HU := Lib.hid (And.intro hu hg)
      have HC := Lib.hid C
      have HK := Lib.hid hk
      clear hj hu hg C hk
      go_enter Try.func68, Try.ntmps68
      go_wp2_with fail
      go_loopw [8] (fun z wr => ∃ k : Nat, z = .int .i64 k ∧ k ≤ i ∧ Below w.heap.size w wr) (fun z _ => ks.length - (intOf z).toNat)
      case atStart => exact ⟨0, rfl, Nat.zero_le _, Below.refl _ _⟩
      case round =>
        obtain ⟨k, rfl, hki, hb⟩ := hrel
        have HB := Lib.hid hb
        clear hb
        have hkl : k < ks.length := by omega
        obtain ⟨x, hx⟩ : ∃ x, ks[k]? = some x := ⟨_, List.getElem?_eq_getElem hkl⟩
        obtain ⟨g, o, rfl, hgl, d0⟩ := HC.out k x hx
        have e0 := (HB.out.cell (p := ⟨g, o + k, none⟩) hgl).trans d0
        have hsz := HK.out x (List.mem_of_getElem? hx)
        have HFx := Lib.hid (fun w => HF.out (strOf x) w (by rw [strOf_size]; exact hsz))
        rw [strOf_list] at HFx
        have HX := Lib.hid hx
        clear d0 hx hsz
        generalize strOf x = y at *
        by_cases hlt : k < i
        · have hgx := HJ.out k x hlt HX.out
          rw [hgx] at HFx
          clear hgx
          go_wp2_with fail
          refine (HFx.out _).mono ?_
          rintro e w2 ⟨rfl, b2⟩
          go_wp2_with fail
          go_roundw
          case rel => exact ⟨k + 1, by go_num, hlt, HB.out.trans (b2.mono HB.out.size)⟩
          case measure => simp [intOf]; omega
        · obtain rfl : k = i := by omega
          have hgx : good x = false := by have h1 := HU.out.1; have h2 := HX.out; rw [h1] at h2; rw [← Option.some.inj h2]; exact HU.out.2
          rw [hgx] at HFx
          clear hgx
          go_wp2_with fail
          refine (HFx.out _).mono ?_
          rintro e w2 ⟨rfl, b2⟩
          go_wp2_with fail
          go_ret
          exact ⟨rfl, HB.out.trans (b2.mono HB.out.size)⟩
  · refine ⟨-1, ?_, ?_⟩
    · rw [decide_eq_false (by omega)]
      symm
      rw [List.any_eq_false]
      intro u hu
      obtain ⟨j, hj⟩ := List.getElem?_of_mem hu
      rw [hall j u hj]; simp
    · have HJ := Lib.hid hall
      have HC := Lib.hid C
      have HK := Lib.hid hk
      clear hall C hk
      go_enter Try.func68, Try.ntmps68
      go_wp2_with fail
      go_loopw [8] (fun z wr => ∃ k : Nat, z = .int .i64 k ∧ k ≤ ks.length ∧ Below w.heap.size w wr) (fun z _ => ks.length - (intOf z).toNat)
      case atStart => exact ⟨0, rfl, Nat.zero_le _, Below.refl _ _⟩
      case round =>
        obtain ⟨k, rfl, hki, hb⟩ := hrel
        have HB := Lib.hid hb
        clear hb
        by_cases hkl : k < ks.length
        · obtain ⟨x, hx⟩ : ∃ x, ks[k]? = some x := ⟨_, List.getElem?_eq_getElem hkl⟩
          obtain ⟨g, o, rfl, hgl, d0⟩ := HC.out k x hx
          have e0 := (HB.out.cell (p := ⟨g, o + k, none⟩) hgl).trans d0
          have hsz := HK.out x (List.mem_of_getElem? hx)
          have HFx := Lib.hid (fun w => HF.out (strOf x) w (by rw [strOf_size]; exact hsz))
          rw [strOf_list, HJ.out k x hx] at HFx
          clear d0 hx hsz
          generalize strOf x = y at *
          go_wp2_with fail
          refine (HFx.out _).mono ?_
          rintro e w2 ⟨rfl, b2⟩
          go_wp2_with fail
          go_roundw
          case rel => exact ⟨k + 1, by go_num, hkl, HB.out.trans (b2.mono HB.out.size)⟩
          case measure => simp [intOf]; omega
        · go_wp2_with fail
          go_ret
          exact ⟨rfl, HB.out⟩
/-- slices.ContainsFunc over texts. -/
theorem hasSA_any (ks : List (List UInt8)) (v : Value) (w : World) (h : TxtA w ks v) (hl : ks.length ≤ 1000000) (hk : ∀ u ∈ ks, u.length ≤ 9223372036854775807) :
    Calls Try.prog 48 #[v, .func (Fn.func 49) #[] #[]] w fun e w' => e = .returned (.bool (ks.any fun k => !good k)) ∧ Below w.heap.size w w' := by
  obtain ⟨r, hr, hi⟩ := idxSA_any ks v w h hl hk
  obtain ⟨ao, cap, rfl, _⟩ := h
  have HI := Lib.hid hi
  rw [← hr]
  clear hi hr
  go_enter Try.func48, Try.ntmps48
  go_wp2_with fail
  refine HI.out.mono ?_
  rintro e w2 ⟨rfl, b2⟩
  go_wp2_with fail
  go_ret
  exact ⟨rfl, b2⟩
end Go.Proofs.Ytjnmcadfaombjaa

/- Walks: the document's Same of two nodes whose rows may begin anywhere. -/
namespace Go.Proofs.Ytjnmcadfaombjaa
open Go.RowKit
set_option linter.unusedVariables false
set_option linter.unusedSimpArgs false
set_option linter.constructorNameAsVariable false
theorem nodeA_drew {w : World} {ok : Nat → Prop} {n : Node} {v : Value} (h : NodeA w ok n v) : NodeA w.drew ok n v := NodeA.mono (w := w) (w' := w.drew) (ok' := ok) (fun g hg hl => ⟨hg, hl, rfl⟩) n v h
def SamA (a : Node) : Prop := ∀ (b : Node) (ok ok' : Nat → Prop) (a0 a1 a2 a3 b0 b1 b2 b3 : Value) (w : World), NodeA w ok a (.agg #[a0, a1, a2, a3]) → NodeA w ok' b (.agg #[b0, b1, b2, b3]) → SmallN a → SmallN b →
  Calls Try.prog 15 #[.agg #[a0, a1, a2, a3], .agg #[b0, b1, b2, b3]] w fun e w' => e = .returned (.bool (sameN a b)) ∧ Below w.heap.size w w'
set_option maxRecDepth 100000 in
set_option maxHeartbeats 8000000 in
theorem sameA_one (q : Nat) (t : List UInt8) (ks : List (List UInt8)) (ns : List Node) (hF : ∀ (j : Nat) (n : Node), ns[j]? = some n → SamA n) : SamA (.mk q t ks ns) := by
  intro b ok ok' a0 a1 a2 a3 b0 b1 b2 b3 w ha hb hsa hsb
  obtain ⟨q', t', ks', ns'⟩ := b
  unfold NodeA at ha hb
  obtain ⟨kv, nv, cs, hv, h1, h2, h3⟩ := ha
  simp only [Value.agg.injEq, Array.mk.injEq, List.cons.injEq, and_true] at hv
  obtain ⟨rfl, rfl, rfl, rfl⟩ := hv
  obtain ⟨kv', nv', cs', hv, g1, g2, g3⟩ := hb
  simp only [Value.agg.injEq, Array.mk.injEq, List.cons.injEq, and_true] at hv
  obtain ⟨rfl, rfl, rfl, rfl⟩ := hv
  have hT := TxtA.of h1
  have hT' := TxtA.of g1
  obtain ⟨o1, c1, rfl⟩ := rowA_len h1
  obtain ⟨o2, c2, rfl⟩ := rowA_len h2
  obtain ⟨o3, c3, rfl⟩ := rowA_len g1
  obtain ⟨o4, c4, rfl⟩ := rowA_len g2
  unfold SmallN at hsa hsb
  obtain ⟨_, _, s3, s4, s5⟩ := hsa
  obtain ⟨_, _, s3', s4', s5'⟩ := hsb
  have HV : Hid (sameN (.mk q t ks ns) (.mk q' t' ks' ns') = (decide (q = q') && decide (t = t') && decide (ks = ks') && decide (ns.length = ns'.length) && sameL ns ns')) := by show _ = _; rw [sameN]
  have q1 : ((q : Int) != (q' : Int)) = !decide (q = q') := by
    by_cases h : q = q'
    · simp [h]
    · have : ¬ ((q : Int) = (q' : Int)) := by omega
      simp [h, this]
  have q2 := str_same t t'
  have q3 : ((ns.length : Int) != (ns'.length : Int)) = !decide (ns.length = ns'.length) := by
    by_cases h : ns.length = ns'.length
    · simp [h]
    · have : ¬ ((ns.length : Int) = (ns'.length : Int)) := by omega
      simp [h, this]
  have HSm := Lib.hid (And.intro s5 s5')
  have HF := Lib.hid hF
  have HN0 := Lib.hid ((Blk.new w 44 #[.int .u8 q, .string (strOf t), .slice o1 ks.length c1, .slice o2 ns.length c2]).alloc (.cells #[.int .u8 q', .string (strOf t'), .slice o3 ks'.length c3, .slice o4 ns'.length c4] 44))
  have HM0 : Hid (Blk ((w.alloc (.cells #[.int .u8 q, .string (strOf t), .slice o1 ks.length c1, .slice o2 ns.length c2] 44)).alloc (.cells #[.int .u8 q', .string (strOf t'), .slice o3 ks'.length c3, .slice o4 ns'.length c4] 44)) (w.heap.size + 1) 44 #[.int .u8 q', .string (strOf t'), .slice o3 ks'.length c3, .slice o4 ns'.length c4]) := by
    have := Blk.new (w.alloc (.cells #[.int .u8 q, .string (strOf t), .slice o1 ks.length c1, .slice o2 ns.length c2] 44)) 44 #[.int .u8 q', .string (strOf t'), .slice o3 ks'.length c3, .slice o4 ns'.length c4]
    rwa [World.size_alloc] at this
  have hB0 := ((Below.refl w.heap.size w).alloc (Nat.le_refl _) (.cells #[.int .u8 q, .string (strOf t), .slice o1 ks.length c1, .slice o2 ns.length c2] 44)).alloc (by simp) (.cells #[.int .u8 q', .string (strOf t'), .slice o3 ks'.length c3, .slice o4 ns'.length c4] 44)
  have HSK := Lib.hid (rsameA_any ks ks' _ _ _ (txtA_below hT hB0) (txtA_below hT' hB0) (by omega) (by omega))
  have HB0 := Lib.hid hB0
  have HR := Lib.hid h2
  have HKd := Lib.hid h3
  have HR' := Lib.hid g2
  have HKd' := Lib.hid g3
  clear hT hT' hB0 h1 h2 h3 g1 g2 g3 hF s5 s5'
  generalize strOf t = x at *
  generalize strOf t' = y at *
  go_enter Try.func15, Try.ntmps15
  go_upto_region 1 with fail
  generalize (w.alloc (.cells #[.int .u8 q, .string x, .slice o1 ks.length c1, .slice o2 ns.length c2] 44)).alloc (.cells #[.int .u8 q', .string y, .slice o3 ks'.length c3, .slice o4 ns'.length c4] 44) = W0 at *
  have n0 := HN0.out.cell 0
  have n1 := HN0.out.cell 1
  have n2 := HN0.out.cell 2
  have m0 := HM0.out.cell 0
  have m1 := HM0.out.cell 1
  have m2 := HM0.out.cell 2
  generalize decide (q = q') = b1 at *
  generalize decide (t = t') = b2 at *
  generalize decide (ks = ks') = b3 at *
  cases b1
  · go_wp2_with fail
    go_ret
    exact ⟨by rw [HV.out]; rfl, HB0.out⟩
  cases b2
  · go_wp2_with fail
    go_ret
    exact ⟨by rw [HV.out]; rfl, HB0.out⟩
  cases b3
  · go_wp2_with fail
    refine HSK.out.mono ?_
    rintro e w2 ⟨rfl, k2⟩
    go_wp2_with fail
    go_ret
    exact ⟨by rw [HV.out]; rfl, HB0.out.trans (k2.mono HB0.out.size)⟩
  go_wp2_with fail
  refine HSK.out.mono ?_
  rintro e w2 ⟨rfl, k2⟩
  have HN2 := Lib.hid (HN0.out.below k2 HN0.out.lt)
  have HM2 := Lib.hid (HM0.out.below k2 HM0.out.lt)
  have HB2 := Lib.hid (HB0.out.trans (k2.mono HB0.out.size))
  clear n0 n1 n2 m0 m1 m2 HN0 HM0 HB0 HSK k2 q1 q2
  have n3 := HN2.out.cell 3
  have m3 := HM2.out.cell 3
  by_cases hl : ns.length = ns'.length
  · rw [decide_eq_true hl] at q3 HV
    have HV2 : Hid (sameN (.mk q t ks ns) (.mk q' t' ks' ns') = sameL ns ns') := by show _ = _; rw [HV.out]; rfl
    have HLn := Lib.hid hl
    have hN1 := HN2.out.lt
    have hM1 := HM2.out.lt
    clear hl HV
    go_wp2_with fail
    go_loopw [5] (fun z wr => ∃ i : Nat, z = .int .i64 i ∧ i ≤ ns.length ∧ (∀ (j : Nat) (a b : Node), j < i → ns[j]? = some a → ns'[j]? = some b → sameN a b = true) ∧ Below w2.heap.size w2 wr) (fun z _ => ns.length - (intOf z).toNat)
    case atStart => exact ⟨0, rfl, Nat.zero_le _, fun j a b hj => by omega, Below.refl _ _⟩
    case round =>
      obtain ⟨i, rfl, hi, hs, hb⟩ := hrel
      have HS := Lib.hid hs
      have HB := Lib.hid hb
      have HNr := HN2.out.below hb hN1
      have HMr := HM2.out.below hb hM1
      have x3 := HNr.cell 3
      have y3 := HMr.cell 3
      clear n3 m3 hs
      by_cases hlt : i < ns.length
      · obtain ⟨a, ha⟩ : ∃ a, ns[i]? = some a := ⟨_, List.getElem?_eq_getElem hlt⟩
        obtain ⟨b, hb'⟩ : ∃ b, ns'[i]? = some b := ⟨_, List.getElem?_eq_getElem (by have := HLn.out; omega)⟩
        have hbw := HB2.out.trans (hb.mono HB2.out.size)
        obtain ⟨ga, oa, _, e0, e1, e2, e3, hv, p0, p1, p2, p3, hNa⟩ := kidA_at HR.out HKd.out ha hbw
        simp only [Value.slice.injEq] at hv
        obtain ⟨rfl, _, rfl⟩ := hv
        obtain ⟨gb, ob, _, f0, f1, f2, f3, hv, r0, r1, r2, r3, hNb⟩ := kidA_at HR'.out HKd'.out hb' hbw
        simp only [Value.slice.injEq] at hv
        obtain ⟨rfl, _, rfl⟩ := hv
        have HC := Lib.hid (HF.out i a ha b ok ok' e0 e1 e2 e3 f0 f1 f2 f3 wr.drew (nodeA_drew hNa) (nodeA_drew hNb) (HSm.out.1.at ha) (HSm.out.2.at hb'))
        have HAB := Lib.hid (And.intro ha hb')
        have hli : i < ns'.length := by have := HLn.out; omega
        have K1 : wr.drew.cell? ⟨w.heap.size, 3, none⟩ = some (.slice (some ⟨ga, oa, none⟩) ns.length c2) ∧ wr.drew.cell? ⟨w.heap.size + 1, 3, none⟩ = some (.slice (some ⟨gb, ob, none⟩) ns'.length c4) ∧ wr.drew.cell? ⟨ga, oa + i * 4, none⟩ = some e0 ∧ wr.drew.cell? ⟨ga, oa + i * 4 + 1, none⟩ = some e1 ∧ wr.drew.cell? ⟨ga, oa + i * 4 + 2, none⟩ = some e2 ∧ wr.drew.cell? ⟨ga, oa + i * 4 + 3, none⟩ = some e3 ∧ wr.drew.cell? ⟨gb, ob + i * 4, none⟩ = some f0 ∧ wr.drew.cell? ⟨gb, ob + i * 4 + 1, none⟩ = some f1 ∧ wr.drew.cell? ⟨gb, ob + i * 4 + 2, none⟩ = some f2 ∧ wr.drew.cell? ⟨gb, ob + i * 4 + 3, none⟩ = some f3 := ⟨x3, y3, p0, p1, p2, p3, r0, r1, r2, r3⟩
        have K2 : ∀ w', Below wr.drew.heap.size wr.drew w' → w'.cell? ⟨w.heap.size, 3, none⟩ = some (.slice (some ⟨ga, oa, none⟩) ns.length c2) ∧ w'.cell? ⟨w.heap.size + 1, 3, none⟩ = some (.slice (some ⟨gb, ob, none⟩) ns'.length c4) ∧ w'.cell? ⟨ga, oa + i * 4, none⟩ = some e0 ∧ w'.cell? ⟨ga, oa + i * 4 + 1, none⟩ = some e1 ∧ w'.cell? ⟨ga, oa + i * 4 + 2, none⟩ = some e2 ∧ w'.cell? ⟨ga, oa + i * 4 + 3, none⟩ = some e3 ∧ w'.cell? ⟨gb, ob + i * 4, none⟩ = some f0 ∧ w'.cell? ⟨gb, ob + i * 4 + 1, none⟩ = some f1 ∧ w'.cell? ⟨gb, ob + i * 4 + 2, none⟩ = some f2 ∧ w'.cell? ⟨gb, ob + i * 4 + 3, none⟩ = some f3 := by
          have l1 : ga < wr.heap.size := cell_lt p0
          have l2 : gb < wr.heap.size := cell_lt r0
          have l3 : w.heap.size < wr.heap.size := Nat.lt_of_lt_of_le hN1 hb.size
          have l4 : w.heap.size + 1 < wr.heap.size := Nat.lt_of_lt_of_le hM1 hb.size
          intro w' h
          exact ⟨(h.cell (p := ⟨w.heap.size, 3, none⟩) l3).trans x3, (h.cell (p := ⟨w.heap.size + 1, 3, none⟩) l4).trans y3, (h.cell (p := ⟨ga, oa + i * 4, none⟩) l1).trans p0, (h.cell (p := ⟨ga, oa + i * 4 + 1, none⟩) l1).trans p1, (h.cell (p := ⟨ga, oa + i * 4 + 2, none⟩) l1).trans p2, (h.cell (p := ⟨ga, oa + i * 4 + 3, none⟩) l1).trans p3, (h.cell (p := ⟨gb, ob + i * 4, none⟩) l2).trans r0, (h.cell (p := ⟨gb, ob + i * 4 + 1, none⟩) l2).trans r1, (h.cell (p := ⟨gb, ob + i * 4 + 2, none⟩) l2).trans r2, (h.cell (p := ⟨gb, ob + i * 4 + 3, none⟩) l2).trans r3⟩
        have HK2 := Lib.hid K2
        obtain ⟨rs, hrs⟩ : ∃ rs, sameN a b = rs := ⟨_, rfl⟩
        rw [hrs] at HC
        have HRS := Lib.hid hrs
        clear ha hb' hNa hNb HNr HMr hbw hrs K2 y3 p0 p1 p2 p3 r0 r1 r2 r3 hb
        go_wp2_with fail
        go_region_held3 (fun w' => w'.cell? ⟨w.heap.size, 3, none⟩ = some (.slice (some ⟨ga, oa, none⟩) ns.length c2) ∧ w'.cell? ⟨w.heap.size + 1, 3, none⟩ = some (.slice (some ⟨gb, ob, none⟩) ns'.length c4) ∧ w'.cell? ⟨ga, oa + i * 4, none⟩ = some e0 ∧ w'.cell? ⟨ga, oa + i * 4 + 1, none⟩ = some e1 ∧ w'.cell? ⟨ga, oa + i * 4 + 2, none⟩ = some e2 ∧ w'.cell? ⟨ga, oa + i * 4 + 3, none⟩ = some e3 ∧ w'.cell? ⟨gb, ob + i * 4, none⟩ = some f0 ∧ w'.cell? ⟨gb, ob + i * 4 + 1, none⟩ = some f1 ∧ w'.cell? ⟨gb, ob + i * 4 + 2, none⟩ = some f2 ∧ w'.cell? ⟨gb, ob + i * 4 + 3, none⟩ = some f3) (first | (with_reducible exact K1) | (exact HK2.out _ k5)) ((go_at_call 15; refine HC.out.mono ?_; rintro e w5 ⟨rfl, k5⟩))
        have HB5 := Lib.hid (HB.out.trans (Below.mono (below_drewS k5) HB.out.size))
        cases rs
        · have HE : Hid (sameL ns ns' = false) := by
            show _ = _
            rw [Bool.eq_false_iff]; intro h
            have := sameL_at.1 h i a b HAB.out.1 HAB.out.2
            rw [HRS.out] at this; cases this
          go_wp2_with fail
          go_ret
          exact ⟨by rw [HV2.out, HE.out]; rfl, HB2.out.trans (HB5.out.mono HB2.out.size)⟩
        · go_wp2_with fail
          go_roundw
          case rel =>
            refine ⟨i + 1, by go_num, hlt, fun j a' b' hj h1 h2 => ?_, HB5.out⟩
            rcases Nat.lt_or_ge j i with h | h
            · exact HS.out j a' b' h h1 h2
            · obtain rfl : j = i := by omega
              rw [HAB.out.1] at h1; rw [HAB.out.2] at h2
              cases h1; cases h2; exact HRS.out
          case measure => simp [intOf]; omega
      · have HE : Hid (sameL ns ns' = true) := sameL_at.2 fun j a b hja hjb => HS.out j a b (by have := (List.getElem?_eq_some_iff.1 hja).1; omega) hja hjb
        clear HNr HMr
        go_wp2_with fail
        go_ret
        exact ⟨by rw [HV2.out, HE.out]; rfl, HB2.out.trans (HB.out.mono HB2.out.size)⟩
  · rw [decide_eq_false hl] at q3 HV
    clear hl
    go_wp2_with fail
    go_ret
    exact ⟨by rw [HV.out]; rfl, HB2.out⟩
mutual
theorem sameA_any : ∀ n : Node, SamA n
  | .mk q t ks ns => sameA_one q t ks ns fun j n hj => sameA_all ns j n hj
theorem sameA_all : ∀ (ns : List Node) (j : Nat) (n : Node), ns[j]? = some n → SamA n
  | [], j, n, h => by simp at h
  | m :: ns, 0, n, h => by
    have h1 : m = n := by simpa using h
    rw [← h1]; exact sameA_any m
  | m :: ns, j + 1, n, h => sameA_all ns j n (by simpa using h)
end
end Go.Proofs.Ytjnmcadfaombjaa

/- Walks: json.Same (slices.Equal, slices.EqualFunc; chapter 10). -/
namespace Go.Proofs.Ytjnmcadfaombjaa
open Go.RowKit
set_option linter.unusedVariables false
set_option linter.unusedSimpArgs false
set_option linter.constructorNameAsVariable false
set_option maxRecDepth 100000 in
set_option maxHeartbeats 1000000 in
theorem sequal_any (ks ks2 : List (List UInt8)) (v v2 : Value) (w : World) (h1 : TxtA w ks v) (h2 : TxtA w ks2 v2) (l1 : ks.length ≤ 1000000) (l2 : ks2.length ≤ 1000000) :
    Calls Try.prog 35 #[v, v2] w fun e w' => e = .returned (.bool (decide (ks = ks2))) ∧ Below w.heap.size w w' := by
  obtain ⟨a1, p1, rfl, C1⟩ := h1
  obtain ⟨a2, p2, rfl, C2⟩ := h2
  by_cases hn : ks.length = ks2.length
  · have HC2 := Lib.hid C2
    have HC1 := Lib.hid C1
    have HN := Lib.hid hn
    have hq : ((ks.length : Int) != (ks.length : Int)) = false := by simp
    rw [← hn]
    clear C1 C2 hn l2
    go_enter Try.func35, Try.ntmps35
    go_wp2_with fail
    go_loopw [13] (fun z wr => ∃ i : Nat, z = .int .i64 i ∧ i ≤ ks.length ∧ (∀ j, j < i → ks[j]? = ks2[j]?) ∧ Below w.heap.size w wr) (fun z _ => ks.length - (intOf z).toNat)
    case atStart => exact ⟨0, rfl, Nat.zero_le _, fun j hj => by omega, Below.refl _ _⟩
    case round =>
      obtain ⟨i, rfl, hi, hs, hb⟩ := hrel
      have HS := Lib.hid hs
      have HB := Lib.hid hb
      clear hs hb
      by_cases hlt : i < ks.length
      · obtain ⟨u, hu⟩ : ∃ u, ks[i]? = some u := ⟨_, List.getElem?_eq_getElem hlt⟩
        obtain ⟨u2, hu2⟩ : ∃ u, ks2[i]? = some u := ⟨_, List.getElem?_eq_getElem (by have := HN.out; omega)⟩
        obtain ⟨g1, z1, rfl, hg1, d1⟩ := HC1.out i u hu
        obtain ⟨g2, z2, rfl, hg2, d2⟩ := HC2.out i u2 hu2
        have e1 := (HB.out.cell (p := ⟨g1, z1 + i, none⟩) hg1).trans d1
        have e2 := (HB.out.cell (p := ⟨g2, z2 + i, none⟩) hg2).trans d2
        obtain ⟨b, hb⟩ : ∃ b, decide (u = u2) = b := ⟨_, rfl⟩
        have hb2 : ((strOf u).toList == (strOf u2).toList) = b := (str_same u u2).trans hb
        have HBB := Lib.hid hb
        generalize strOf u = x at *
        generalize strOf u2 = y at *
        have HU := Lib.hid hu
        have HU2 := Lib.hid hu2
        clear d1 d2 hb hu hu2
        go_wp2_with fail
        go_region_held3 (fun w' => w'.cell? ⟨g1, z1 + i, none⟩ = some (.string x) ∧ w'.cell? ⟨g2, z2 + i, none⟩ = some (.string y)) (exact ⟨e1, e2⟩) (fail)
        cases b
        · go_wp2_with fail
          go_ret
          refine ⟨?_, HB.out.drew⟩
          rw [decide_eq_false (fun h => of_decide_eq_false HBB.out (by subst h; exact Option.some.inj (HU.out.symm.trans HU2.out)))]; rfl
        · go_wp2_with fail
          go_roundw
          case rel =>
            refine ⟨i + 1, by go_num, by omega, fun j hj => ?_, HB.out.drew⟩
            rcases Nat.lt_or_ge j i with h | h
            · exact HS.out j h
            · obtain rfl : j = i := by omega
              rw [HU.out, HU2.out, of_decide_eq_true HBB.out]
          case measure => simp [intOf]; omega
      · go_wp2_with fail
        go_ret
        refine ⟨?_, HB.out⟩
        rw [decide_eq_true (List.ext_getElem? fun j => ?_)]
        · rfl
        · rcases Nat.lt_or_ge j i with h | h
          · exact HS.out j h
          · rw [List.getElem?_eq_none (by omega), List.getElem?_eq_none (by have := HN.out; omega)]
  · have hq : ((ks.length : Int) != (ks2.length : Int)) = true := by simp; omega
    have HV : Hid (decide (ks = ks2) = false) := decide_eq_false (fun h => hn (by rw [h]))
    clear C1 C2
    go_enter Try.func35, Try.ntmps35
    go_wp2_with fail
    go_ret
    exact ⟨by rw [HV.out]; rfl, Below.refl _ _⟩
def SamJ (a : Node) : Prop := ∀ (b : Node) (ok ok' : Nat → Prop) (a0 a1 a2 a3 b0 b1 b2 b3 : Value) (w : World), NodeA w ok a (.agg #[a0, a1, a2, a3]) → NodeA w ok' b (.agg #[b0, b1, b2, b3]) → SmallN a → SmallN b →
  Calls Try.prog 22 #[.agg #[a0, a1, a2, a3], .agg #[b0, b1, b2, b3]] w fun e w' => e = .returned (.bool (sameN a b)) ∧ Below w.heap.size w w'
theorem nodeA_below {w w' : World} {ok : Nat → Prop} {n : Node} {v : Value} (h : NodeA w ok n v) (hb : Below w.heap.size w w') : NodeA w' ok n v :=
  NodeA.mono (fun g hg hl => ⟨hg, Nat.lt_of_lt_of_le hl hb.size, hb.block g hl⟩) n v h
set_option maxRecDepth 100000 in
set_option maxHeartbeats 4000000 in
theorem eqfn_any (ns ns' : List Node) (hF : ∀ (j : Nat) (n : Node), ns[j]? = some n → SamJ n) (ok ok' : Nat → Prop) (v v' : Value) (cs cs' : List Value) (w : World) (h2 : RowA w ok v ns.length cs) (h3 : KidsA w ok ns cs) (g2 : RowA w ok' v' ns'.length cs') (g3 : KidsA w ok' ns' cs')
    (s4 : ns.length ≤ 100000) (s4' : ns'.length ≤ 100000) (s5 : SmallL ns) (s5' : SmallL ns') :
    Calls Try.prog 36 #[v, v', .func (Fn.func 22) #[] #[]] w fun e w' => e = .returned (.bool (decide (ns.length = ns'.length) && sameL ns ns')) ∧ Below w.heap.size w w' := by
  obtain ⟨o2, c2, rfl⟩ := rowA_len h2
  obtain ⟨o4, c4, rfl⟩ := rowA_len g2
  have q3 : ((ns.length : Int) != (ns'.length : Int)) = !decide (ns.length = ns'.length) := by
    by_cases h : ns.length = ns'.length
    · simp [h]
    · have : ¬ ((ns.length : Int) = (ns'.length : Int)) := by omega
      simp [h, this]
  have HSm := Lib.hid (And.intro s5 s5')
  have HF := Lib.hid hF
  have HR := Lib.hid h2
  have HKd := Lib.hid h3
  have HR' := Lib.hid g2
  have HKd' := Lib.hid g3
  clear h2 h3 g2 g3 hF s5 s5'
  by_cases hl : ns.length = ns'.length
  · rw [decide_eq_true hl] at q3 ⊢
    have HLn := Lib.hid hl
    clear hl
    rw [Bool.true_and]
    have HW := Lib.hid (Below.refl w.heap.size w)
    go_enter Try.func36, Try.ntmps36
    go_wp2_with fail
    go_loopw [17] (fun z wr => ∃ i : Nat, z = .int .i64 i ∧ i ≤ ns.length ∧ (∀ (j : Nat) (a b : Node), j < i → ns[j]? = some a → ns'[j]? = some b → sameN a b = true) ∧ Below w.heap.size w wr) (fun z _ => ns.length - (intOf z).toNat)
    case atStart => exact ⟨0, rfl, Nat.zero_le _, fun j a b hj => by omega, Below.refl _ _⟩
    case round =>
      obtain ⟨i, rfl, hi, hs, hb⟩ := hrel
      have HS := Lib.hid hs
      have HB := Lib.hid hb
      clear hs
      by_cases hlt : i < ns.length
      · obtain ⟨a, ha⟩ : ∃ a, ns[i]? = some a := ⟨_, List.getElem?_eq_getElem hlt⟩
        obtain ⟨b, hb'⟩ : ∃ b, ns'[i]? = some b := ⟨_, List.getElem?_eq_getElem (by have := HLn.out; omega)⟩
        obtain ⟨ga, oa, _, e0, e1, e2, e3, hv, p0, p1, p2, p3, hNa⟩ := kidA_at HR.out HKd.out ha hb
        simp only [Value.slice.injEq] at hv
        obtain ⟨rfl, _, rfl⟩ := hv
        obtain ⟨gb, ob, _, f0, f1, f2, f3, hv, r0, r1, r2, r3, hNb⟩ := kidA_at HR'.out HKd'.out hb' hb
        simp only [Value.slice.injEq] at hv
        obtain ⟨rfl, _, rfl⟩ := hv
        obtain ⟨v1, v2, v3, v4, v5, v6, v7, v8, rfl, rfl, rfl, rfl⟩ := nodeA_shape hNa
        obtain ⟨u1, u2, u3, u4, u5, u6, u7, u8, rfl, rfl, rfl, rfl⟩ := nodeA_shape hNb
        have hB2 := ((Below.refl wr.heap.size wr).alloc (Nat.le_refl _) (.cells #[.int .u8 v1, .string v2, .slice v3 v4 v5, .slice v6 v7 v8] 39)).alloc (by simp) (.cells #[.int .u8 u1, .string u2, .slice u3 u4 u5, .slice u6 u7 u8] 39)
        have HB2 := Lib.hid hB2
        have HC := Lib.hid (HF.out i a ha b ok ok' _ _ _ _ _ _ _ _ _ (nodeA_below hNa hB2) (nodeA_below hNb hB2) (HSm.out.1.at ha) (HSm.out.2.at hb'))
        have HAB := Lib.hid (And.intro ha hb')
        have hli : i < ns'.length := by have := HLn.out; omega
        have l2 : gb < wr.heap.size := cell_lt r0
        have hB1 := (Below.refl wr.heap.size wr).alloc (Nat.le_refl _) (.cells #[.int .u8 v1, .string v2, .slice v3 v4 v5, .slice v6 v7 v8] 39)
        have y0 := (hB1.cell (p := ⟨gb, ob + i * 4, none⟩) l2).trans r0
        have y1 := (hB1.cell (p := ⟨gb, ob + i * 4 + 1, none⟩) l2).trans r1
        have y2 := (hB1.cell (p := ⟨gb, ob + i * 4 + 2, none⟩) l2).trans r2
        have y3 := (hB1.cell (p := ⟨gb, ob + i * 4 + 3, none⟩) l2).trans r3
        obtain ⟨rs, hrs⟩ : ∃ rs, sameN a b = rs := ⟨_, rfl⟩
        rw [hrs] at HC
        have HRS := Lib.hid hrs
        clear ha hb' hNa hNb hrs hb hB2 hB1 r0 r1 r2 r3 HW
        go_wp2_with fail
        refine HC.out.mono ?_
        rintro e w5 ⟨rfl, k5⟩
        have HB5 := Lib.hid (HB.out.trans ((HB2.out.trans (k5.mono HB2.out.size)).mono HB.out.size))
        cases rs
        · have HE : Hid (sameL ns ns' = false) := by
            show _ = _
            rw [Bool.eq_false_iff]; intro h
            have := sameL_at.1 h i a b HAB.out.1 HAB.out.2
            rw [HRS.out] at this; cases this
          go_wp2_with fail
          go_ret
          exact ⟨by rw [HE.out]; rfl, HB5.out⟩
        · go_wp2_with fail
          go_roundw
          case rel =>
            refine ⟨i + 1, by go_num, hlt, fun j a' b' hj h1 h2 => ?_, HB5.out⟩
            rcases Nat.lt_or_ge j i with h | h
            · exact HS.out j a' b' h h1 h2
            · obtain rfl : j = i := by omega
              rw [HAB.out.1] at h1; rw [HAB.out.2] at h2
              cases h1; cases h2; exact HRS.out
          case measure => simp [intOf]; omega
      · have HE : Hid (sameL ns ns' = true) := sameL_at.2 fun j a b hja hjb => HS.out j a b (by have := (List.getElem?_eq_some_iff.1 hja).1; omega) hja hjb
        clear hb
        go_wp2_with fail
        go_ret
        exact ⟨by rw [HE.out]; rfl, HB.out⟩
  · rw [decide_eq_false hl] at q3 ⊢
    clear hl
    go_enter Try.func36, Try.ntmps36
    go_wp2_with fail
    go_ret
    exact ⟨rfl, Below.refl _ _⟩
set_option maxRecDepth 100000 in
set_option maxHeartbeats 4000000 in
theorem jsame_one (q : Nat) (t : List UInt8) (ks : List (List UInt8)) (ns : List Node) (hF : ∀ (j : Nat) (n : Node), ns[j]? = some n → SamJ n) : SamJ (.mk q t ks ns) := by
  intro b ok ok' a0 a1 a2 a3 b0 b1 b2 b3 w ha hb hsa hsb
  obtain ⟨q', t', ks', ns'⟩ := b
  unfold NodeA at ha hb
  obtain ⟨kv, nv, cs, hv, h1, h2, h3⟩ := ha
  simp only [Value.agg.injEq, Array.mk.injEq, List.cons.injEq, and_true] at hv
  obtain ⟨rfl, rfl, rfl, rfl⟩ := hv
  obtain ⟨kv', nv', cs', hv, g1, g2, g3⟩ := hb
  simp only [Value.agg.injEq, Array.mk.injEq, List.cons.injEq, and_true] at hv
  obtain ⟨rfl, rfl, rfl, rfl⟩ := hv
  have hT := TxtA.of h1
  have hT' := TxtA.of g1
  obtain ⟨o1, c1, rfl⟩ := rowA_len h1
  obtain ⟨o2, c2, rfl⟩ := rowA_len h2
  obtain ⟨o3, c3, rfl⟩ := rowA_len g1
  obtain ⟨o4, c4, rfl⟩ := rowA_len g2
  unfold SmallN at hsa hsb
  obtain ⟨_, _, s3, s4, s5⟩ := hsa
  obtain ⟨_, _, s3', s4', s5'⟩ := hsb
  have HV : Hid (sameN (.mk q t ks ns) (.mk q' t' ks' ns') = (decide (q = q') && decide (t = t') && decide (ks = ks') && decide (ns.length = ns'.length) && sameL ns ns')) := by show _ = _; rw [sameN]
  have q1 : ((q : Int) == (q' : Int)) = decide (q = q') := by
    by_cases h : q = q'
    · simp [h]
    · have : ¬ ((q : Int) = (q' : Int)) := by omega
      simp [h, this]
  have q2 := str_same t t'
  have HN0 := Lib.hid ((Blk.new w 39 #[.int .u8 q, .string (strOf t), .slice o1 ks.length c1, .slice o2 ns.length c2]).alloc (.cells #[.int .u8 q', .string (strOf t'), .slice o3 ks'.length c3, .slice o4 ns'.length c4] 39))
  have HM0 : Hid (Blk ((w.alloc (.cells #[.int .u8 q, .string (strOf t), .slice o1 ks.length c1, .slice o2 ns.length c2] 39)).alloc (.cells #[.int .u8 q', .string (strOf t'), .slice o3 ks'.length c3, .slice o4 ns'.length c4] 39)) (w.heap.size + 1) 39 #[.int .u8 q', .string (strOf t'), .slice o3 ks'.length c3, .slice o4 ns'.length c4]) := by
    have := Blk.new (w.alloc (.cells #[.int .u8 q, .string (strOf t), .slice o1 ks.length c1, .slice o2 ns.length c2] 39)) 39 #[.int .u8 q', .string (strOf t'), .slice o3 ks'.length c3, .slice o4 ns'.length c4]
    rwa [World.size_alloc] at this
  have hB0 := ((Below.refl w.heap.size w).alloc (Nat.le_refl _) (.cells #[.int .u8 q, .string (strOf t), .slice o1 ks.length c1, .slice o2 ns.length c2] 39)).alloc (by simp) (.cells #[.int .u8 q', .string (strOf t'), .slice o3 ks'.length c3, .slice o4 ns'.length c4] 39)
  have HSK := Lib.hid (sequal_any ks ks' _ _ _ (txtA_below hT hB0) (txtA_below hT' hB0) (by omega) (by omega))
  have hmo : ∀ {ok : Nat → Prop} {w2 : World}, Below w.heap.size w w2 → ∀ g, ok g → g < w.heap.size → ok g ∧ g < w2.heap.size ∧ w2.heap[g]? = w.heap[g]? := fun hb g hg hl => ⟨hg, Nat.lt_of_lt_of_le hl hb.size, hb.block g hl⟩
  have HEQ : Hid (∀ w2, Below w.heap.size w w2 → Calls Try.prog 36 #[.slice o2 ns.length c2, .slice o4 ns'.length c4, .func (Fn.func 22) #[] #[]] w2 fun e w' => e = .returned (.bool (decide (ns.length = ns'.length) && sameL ns ns')) ∧ Below w2.heap.size w2 w') :=
    fun w2 hb => eqfn_any ns ns' hF ok ok' _ _ cs cs' w2 (h2.mono (hmo hb)) (KidsA.mono (hmo hb) ns cs h3) (g2.mono (hmo hb)) (KidsA.mono (hmo hb) ns' cs' g3) s4 s4' s5 s5'
  have HB0 := Lib.hid hB0
  clear hT hT' hB0 h1 h2 h3 g1 g2 g3 hF s5 s5' hmo
  generalize strOf t = x at *
  generalize strOf t' = y at *
  go_enter Try.func22, Try.ntmps22
  go_upto_region 1 with fail
  generalize (w.alloc (.cells #[.int .u8 q, .string x, .slice o1 ks.length c1, .slice o2 ns.length c2] 39)).alloc (.cells #[.int .u8 q', .string y, .slice o3 ks'.length c3, .slice o4 ns'.length c4] 39) = W0 at *
  have n0 := HN0.out.cell 0
  have n1 := HN0.out.cell 1
  have n2 := HN0.out.cell 2
  have n3 := HN0.out.cell 3
  have m0 := HM0.out.cell 0
  have m1 := HM0.out.cell 1
  have m2 := HM0.out.cell 2
  have m3 := HM0.out.cell 3
  generalize decide (q = q') = b1 at *
  generalize decide (t = t') = b2 at *
  generalize decide (ks = ks') = b3 at *
  generalize decide (ns.length = ns'.length) = b4 at *
  generalize sameL ns ns' = b5 at *
  cases b1
  · go_wp2_with fail
    go_ret
    exact ⟨by rw [HV.out]; rfl, HB0.out⟩
  cases b2
  · go_wp2_with fail
    go_ret
    exact ⟨by rw [HV.out]; rfl, HB0.out⟩
  cases b3
  · go_wp2_with fail
    refine HSK.out.mono ?_
    rintro e w2 ⟨rfl, k2⟩
    go_wp2_with fail
    go_ret
    exact ⟨by rw [HV.out]; rfl, HB0.out.trans (k2.mono HB0.out.size)⟩
  go_wp2_with fail
  refine HSK.out.mono ?_
  rintro e w2 ⟨rfl, k2⟩
  have HN2 := Lib.hid (HN0.out.below k2 HN0.out.lt)
  have HM2 := Lib.hid (HM0.out.below k2 HM0.out.lt)
  have HB2 := Lib.hid (HB0.out.trans (k2.mono HB0.out.size))
  clear n0 n1 n2 n3 m0 m1 m2 m3 HN0 HM0 HB0 HSK k2 q1 q2
  have n3 := HN2.out.cell 3
  have m3 := HM2.out.cell 3
  have HE2 := Lib.hid (HEQ.out w2 HB2.out)
  clear HEQ
  go_wp2_with fail
  refine HE2.out.mono ?_
  rintro e w3 ⟨rfl, k3⟩
  go_wp2_with fail
  go_ret
  exact ⟨by rw [HV.out]; simp, HB2.out.trans (k3.mono HB2.out.size)⟩
mutual
theorem jsame_any : ∀ n : Node, SamJ n
  | .mk q t ks ns => jsame_one q t ks ns fun j n hj => jsame_all ns j n hj
theorem jsame_all : ∀ (ns : List Node) (j : Nat) (n : Node), ns[j]? = some n → SamJ n
  | [], j, n, h => by simp at h
  | m :: ns, 0, n, h => by
    have h1 : m = n := by simpa using h
    rw [← h1]; exact jsame_any m
  | m :: ns, j + 1, n, h => jsame_all ns j n (by simpa using h)
end
end Go.Proofs.Ytjnmcadfaombjaa

/- Walks: the law's light (chapter 10). -/
namespace Go.Proofs.Ytjnmcadfaombjaa
open Go.RowKit
set_option linter.unusedVariables false
set_option linter.unusedSimpArgs false
set_option linter.constructorNameAsVariable false
mutual
def lightN : Node → Nat → Nat → Option Nat
  | .mk q t ks ns, left, deep => if left = 0 ∨ deep = 0 ∨ 100 < t.length ∨ 50 < ks.length ∨ 50 < ns.length ∨ (∃ k ∈ ks, 100 < k.length) then none else lightL ns (left - 1) (deep - 1)
def lightL : List Node → Nat → Nat → Option Nat
  | [], left, _ => some left
  | n :: ns, left, deep => match lightN n left deep with
    | none => none
    | some r => lightL ns r deep
end
def lightV (o : Option Nat) : Value := .tuple #[.int .i64 ((o.getD 0 : Nat) : Int), .bool o.isSome]
theorem lightL_snoc (n : Node) (d : Nat) : ∀ (ns : List Node) (l : Nat), lightL (ns ++ [n]) l d = match lightL ns l d with | none => none | some r => lightN n r d
  | [], l => by simp only [List.nil_append, lightL]; cases lightN n l d <;> rfl
  | m :: ns, l => by
    rw [List.cons_append]
    simp only [lightL]
    cases lightN m l d with
    | none => rfl
    | some r => exact lightL_snoc n d ns r
theorem lightL_take {ns : List Node} {i : Nat} {n : Node} (h : ns[i]? = some n) (l d : Nat) : lightL (ns.take (i + 1)) l d = match lightL (ns.take i) l d with | none => none | some r => lightN n r d := by
  rw [List.take_add_one, h]; exact lightL_snoc n d _ l
theorem lightL_none {ns : List Node} {i : Nat} {l d : Nat} (h : lightL (ns.take i) l d = none) : lightL ns l d = none := by
  induction ns generalizing i l with
  | nil => rw [List.take_nil] at h; exact h
  | cons m ns ih =>
    cases i with
    | zero => simp [lightL] at h
    | succ i =>
      rw [List.take_succ_cons] at h
      simp only [lightL] at h ⊢
      cases hm : lightN m l d with
      | none => rfl
      | some r => rw [hm] at h; exact ih h
mutual
theorem lightN_le : ∀ (n : Node) (l d r : Nat), lightN n l d = some r → r < l
  | .mk q t ks ns, l, d, r, h => by
    rw [lightN] at h
    split at h
    · cases h
    · rename_i h1
      have := lightL_le ns (l - 1) (d - 1) r h
      omega
theorem lightL_le : ∀ (ns : List Node) (l d r : Nat), lightL ns l d = some r → r ≤ l
  | [], l, d, r, h => by rw [lightL] at h; cases h; exact Nat.le_refl _
  | n :: ns, l, d, r, h => by
    rw [lightL] at h
    cases hn : lightN n l d with
    | none => rw [hn] at h; cases h
    | some r' =>
      rw [hn] at h
      have := lightN_le n l d r' hn
      have := lightL_le ns r' d r h
      omega
end
mutual
theorem lightN_small : ∀ (n : Node) (l d r : Nat), lightN n l d = some r → SmallN n ∧ sizeN n + r ≤ l ∧ deepN n ≤ d
  | .mk q t ks ns, l, d, r, h => by
    rw [lightN] at h
    split at h
    · cases h
    · rename_i h1
      obtain ⟨a, b, c⟩ := lightL_small ns (l - 1) (d - 1) r h
      simp only [not_or, not_exists, not_and, Nat.not_lt] at h1
      obtain ⟨h1, h2, h3, h4, h5, h6⟩ := h1
      refine ⟨?_, ?_, ?_⟩
      · unfold SmallN; exact ⟨by omega, fun k hk => by have := h6 k hk; omega, by omega, by omega, a⟩
      · unfold sizeN; omega
      · unfold deepN; omega
theorem lightL_small : ∀ (ns : List Node) (l d r : Nat), lightL ns l d = some r → SmallL ns ∧ sizeL ns + r ≤ l ∧ deepL ns ≤ d
  | [], l, d, r, h => by rw [lightL] at h; cases h; unfold SmallL sizeL deepL; exact ⟨trivial, by omega, by omega⟩
  | n :: ns, l, d, r, h => by
    rw [lightL] at h
    cases hn : lightN n l d with
    | none => rw [hn] at h; cases h
    | some r' =>
      rw [hn] at h
      obtain ⟨a, b, c⟩ := lightN_small n l d r' hn
      obtain ⟨a', b', c'⟩ := lightL_small ns r' d r h
      unfold SmallL sizeL deepL
      exact ⟨⟨a, a'⟩, by omega, by omega⟩
end
def LightC (n : Node) : Prop := ∀ (left deep : Nat) (ok : Nat → Prop) (a b c e : Value) (w : World), left ≤ 1000 → deep ≤ 1000 → NodeA w ok n (.agg #[a, b, c, e]) →
  Calls Try.prog 18 #[.agg #[a, b, c, e], .int .i64 left, .int .i64 deep] w fun x w' => x = .returned (lightV (lightN n left deep)) ∧ Below w.heap.size w w'
set_option maxRecDepth 100000 in
set_option maxHeartbeats 8000000 in
theorem light_one (q : Nat) (t : List UInt8) (ks : List (List UInt8)) (ns : List Node) (hF : ∀ (j : Nat) (n : Node), ns[j]? = some n → LightC n) : LightC (.mk q t ks ns) := by
  intro left deep ok a b c e w hl hd hn
  unfold NodeA at hn
  obtain ⟨kv, nv, cs, hv, h1, h2, h3⟩ := hn
  simp only [Value.agg.injEq, Array.mk.injEq, List.cons.injEq, and_true] at hv
  obtain ⟨rfl, rfl, rfl, rfl⟩ := hv
  obtain ⟨o1, c1, rfl⟩ := rowA_len h1
  obtain ⟨o2, c2, rfl⟩ := rowA_len h2
  have HT := Lib.hid (TxtA.of h1)
  have HR := Lib.hid h2
  have HKd := Lib.hid h3
  have HF := Lib.hid hF
  have HV : Hid (lightN (.mk q t ks ns) left deep = if left = 0 ∨ deep = 0 ∨ 100 < t.length ∨ 50 < ks.length ∨ 50 < ns.length ∨ (∃ k ∈ ks, 100 < k.length) then none else lightL ns (left - 1) (deep - 1)) := by show _ = _; rw [lightN]
  have hxs : (strOf t).size = t.length := strOf_size t
  clear h1 h2 h3 hF
  generalize strOf t = x at *
  have HB0 := Lib.hid ((Below.refl w.heap.size w).alloc (Nat.le_refl _) (.cells #[.int .u8 q, .string x, .slice o1 ks.length c1, .slice o2 ns.length c2] 44))
  have HN0 := Lib.hid (Blk.new w 44 #[.int .u8 q, .string x, .slice o1 ks.length c1, .slice o2 ns.length c2])
  have hwl : IntKind.i64.wrap ((left : Int) - 1) = (left : Int) - 1 := by rw [IntWalk.i64_in _ (by omega)]
  have hwd : IntKind.i64.wrap ((deep : Int) - 1) = (deep : Int) - 1 := by rw [IntWalk.i64_in _ (by omega)]
  go_enter Try.func18, Try.ntmps18
  go_upto_region 1 with fail
  generalize w.alloc (.cells #[.int .u8 q, .string x, .slice o1 ks.length c1, .slice o2 ns.length c2] 44) = W0 at *
  have n1 := HN0.out.cell 1
  have n2 := HN0.out.cell 2
  have n3 := HN0.out.cell 3
  by_cases p1 : left = 0 ∨ deep = 0 ∨ 100 < t.length ∨ 50 < ks.length ∨ 50 < ns.length
  · have HV2 : Hid (lightN (.mk q t ks ns) left deep = none) := by
      show _ = _
      rw [HV.out]
      refine if_pos ?_
      rcases p1 with h | h | h | h | h
      · exact .inl h
      · exact .inr (.inl h)
      · exact .inr (.inr (.inl h))
      · exact .inr (.inr (.inr (.inl h)))
      · exact .inr (.inr (.inr (.inr (.inl h))))
    clear HV
    by_cases a1 : left = 0
    · have b1 : (left : Int) - 1 < 0 := by omega
      clear p1 a1
      go_wp2_with fail
      exact bodyPost_ret (v := .tuple #[.int .i64 0, .bool false]) (by simp [results, Try.f18, go_sem]) rfl ⟨by rw [HV2.out]; rfl, HB0.out⟩
    have b1 : ¬ ((left : Int) - 1 < 0) := by omega
    by_cases a2 : deep = 0
    · have b2 : (deep : Int) < 1 := by omega
      clear p1 a2
      go_wp2_with fail
      exact bodyPost_ret (v := .tuple #[.int .i64 0, .bool false]) (by simp [results, Try.f18, go_sem]) rfl ⟨by rw [HV2.out]; rfl, HB0.out⟩
    have b2 : ¬ ((deep : Int) < 1) := by omega
    by_cases a3 : 100 < t.length
    · have b3 : (100 : Int) < (x.size : Int) := by omega
      clear p1
      go_wp2_with fail
      exact bodyPost_ret (v := .tuple #[.int .i64 0, .bool false]) (by simp [results, Try.f18, go_sem]) rfl ⟨by rw [HV2.out]; rfl, HB0.out⟩
    have b3 : ¬ ((100 : Int) < (x.size : Int)) := by omega
    by_cases a4 : 50 < ks.length
    · have b4 : (50 : Int) < (ks.length : Int) := by omega
      clear p1
      go_wp2_with fail
      exact bodyPost_ret (v := .tuple #[.int .i64 0, .bool false]) (by simp [results, Try.f18, go_sem]) rfl ⟨by rw [HV2.out]; rfl, HB0.out⟩
    have b4 : ¬ ((50 : Int) < (ks.length : Int)) := by omega
    have b5 : (50 : Int) < (ns.length : Int) := by omega
    clear p1
    go_wp2_with fail
    exact bodyPost_ret (v := .tuple #[.int .i64 0, .bool false]) (by simp [results, Try.f18, go_sem]) rfl ⟨by rw [HV2.out]; rfl, HB0.out⟩
  · have hq : left ≠ 0 ∧ deep ≠ 0 ∧ t.length ≤ 100 ∧ ks.length ≤ 50 ∧ ns.length ≤ 50 := by omega
    obtain ⟨q1, q2, q3, q4, q5⟩ := hq
    have HP1 := Lib.hid p1
    have b1 : ¬ ((left : Int) - 1 < 0) := by omega
    have b2 : ¬ ((deep : Int) < 1) := by omega
    have b3 : ¬ ((100 : Int) < (x.size : Int)) := by omega
    have b4 : ¬ ((50 : Int) < (ks.length : Int)) := by omega
    have b5 : ¬ ((50 : Int) < (ns.length : Int)) := by omega
    clear p1
    have HT0 := Lib.hid (txtA_below HT.out HB0.out)
    go_wp2_with fail
    go_loopw [8] (fun z wr => ∃ i : Nat, z = .int .i64 i ∧ i ≤ ks.length ∧ (∀ (j : Nat) (u : List UInt8), j < i → ks[j]? = some u → u.length ≤ 100) ∧ W0 = wr) (fun z _ => ks.length - (intOf z).toNat)
    case atStart => exact ⟨0, rfl, Nat.zero_le _, fun j u hj => by omega, rfl⟩
    case round =>
      obtain ⟨i, rfl, hi, hs, rfl⟩ := hrel
      have HS := Lib.hid hs
      clear hs b1 b2 b3 b4 b5
      by_cases hlt : i < ks.length
      · obtain ⟨u, hu⟩ : ∃ u, ks[i]? = some u := ⟨_, List.getElem?_eq_getElem hlt⟩
        obtain ⟨ao, cap, hv, hc⟩ := HT0.out
        obtain ⟨g, o, rfl, hg, d1⟩ := hc i u hu
        simp only [Value.slice.injEq] at hv
        obtain ⟨rfl, _, rfl⟩ := hv
        have HU := Lib.hid hu
        have hus : (strOf u).size = u.length := strOf_size u
        generalize strOf u = y at *
        clear hc hu
        by_cases hbig : 100 < u.length
        · have b6 : (100 : Int) < (y.size : Int) := by omega
          have HV2 : Hid (lightN (.mk q t ks ns) left deep = none) := by
            show _ = _
            rw [HV.out]
            exact if_pos (.inr (.inr (.inr (.inr (.inr ⟨u, List.mem_of_getElem? HU.out, hbig⟩)))))
          go_wp2_with fail
          exact bodyPost_ret (v := .tuple #[.int .i64 0, .bool false]) (by simp [results, Try.f18, go_sem]) rfl ⟨by rw [HV2.out]; rfl, HB0.out⟩
        · have b6 : ¬ ((100 : Int) < (y.size : Int)) := by omega
          go_wp2_with fail
          go_roundw
          case rel =>
            refine ⟨i + 1, by go_num, hlt, fun j v hj hv => ?_, by trivial⟩
            rcases Nat.lt_or_ge j i with h | h
            · exact HS.out j v h hv
            · obtain rfl : j = i := by omega
              rw [HU.out] at hv; cases hv; omega
          case measure => simp [intOf]; omega
      · have HV2 : Hid (lightN (.mk q t ks ns) left deep = lightL ns (left - 1) (deep - 1)) := by
          show _ = _
          rw [HV.out]
          refine if_neg ?_
          rintro (h | h | h | h | h | ⟨k, hk, hk2⟩)
          · exact HP1.out (.inl h)
          · exact HP1.out (.inr (.inl h))
          · exact HP1.out (.inr (.inr (.inl h)))
          · exact HP1.out (.inr (.inr (.inr (.inl h))))
          · exact HP1.out (.inr (.inr (.inr (.inr h))))
          · obtain ⟨j, hj⟩ := List.getElem?_of_mem hk
            have := HS.out j k (by have := (List.getElem?_eq_some_iff.1 hj).1; omega) hj
            omega
        have HW0 := HN0.out.lt
        clear HV
        go_wp2_with fail
        go_loopw [1, 9] (fun z y wr => ∃ i l : Nat, y = .int .i64 i ∧ z = .int .i64 l ∧ i ≤ ns.length ∧ l < left ∧ lightL (ns.take i) (left - 1) (deep - 1) = some l ∧ Below W0.heap.size W0 wr) (fun _ y _ => ns.length - (intOf y).toNat)
        case atStart => exact ⟨0, left - 1, rfl, by congr 1; omega, Nat.zero_le _, by omega, by simp [lightL], Below.refl _ _⟩
        case round =>
          obtain ⟨i, l, rfl, rfl, hi2, hll, hs, hb⟩ := hrel
          have HS2 := Lib.hid hs
          have HB := Lib.hid hb
          have HNr := HN0.out.below hb HW0
          have x3 := HNr.cell 3
          clear hs n1 n2 n3 HNr
          by_cases hlt2 : i < ns.length
          · obtain ⟨n, hn⟩ : ∃ n, ns[i]? = some n := ⟨_, List.getElem?_eq_getElem hlt2⟩
            have hbw := HB0.out.trans (hb.mono HB0.out.size)
            obtain ⟨g, o, _, e0, e1, e2, e3, hv, p0, p1, p2, p3, hNn⟩ := kidA_at HR.out HKd.out hn hbw
            simp only [Value.slice.injEq] at hv
            obtain ⟨rfl, _, rfl⟩ := hv
            have HC := Lib.hid (HF.out i n hn l (deep - 1) ok e0 e1 e2 e3 wr (by omega) (by omega) hNn)
            have hdd : ((deep - 1 : Nat) : Int) = (deep : Int) - 1 := by omega
            rw [hdd] at HC
            have HLT := Lib.hid (lightL_take hn (left - 1) (deep - 1))
            rw [HS2.out] at HLT
            clear hn hNn hbw hb hdd
            cases hr : lightN n l (deep - 1) with
            | none =>
              have HV3 : Hid (lightN (.mk q t ks ns) left deep = none) := by
                show _ = _
                rw [HV2.out]
                refine lightL_none (i := i + 1) ?_
                rw [HLT.out]; exact hr
              have HC2 : Hid (Calls Try.prog 18 #[.agg #[e0, e1, e2, e3], .int .i64 l, .int .i64 ((deep : Int) - 1)] wr fun x w' => x = .returned (.tuple #[.int .i64 0, .bool false]) ∧ Below wr.heap.size wr w') := by have := HC.out; rw [hr] at this; exact this
              clear HC hr
              go_wp2_with fail
              refine HC2.out.mono ?_
              rintro x w2 ⟨rfl, b2⟩
              go_wp2_with fail
              exact bodyPost_ret (v := .tuple #[.int .i64 0, .bool false]) (by simp [results, Try.f18, go_sem]) rfl ⟨by rw [HV3.out]; rfl, HB0.out.trans ((HB.out.trans (b2.mono HB.out.size)).mono HB0.out.size)⟩
            | some r =>
              have HC2 : Hid (Calls Try.prog 18 #[.agg #[e0, e1, e2, e3], .int .i64 l, .int .i64 ((deep : Int) - 1)] wr fun x w' => x = .returned (.tuple #[.int .i64 (r : Int), .bool true]) ∧ Below wr.heap.size wr w') := by have := HC.out; rw [hr] at this; exact this
              have HLT2 : Hid (lightL (ns.take (i + 1)) (left - 1) (deep - 1) = some r) := by show _ = _; rw [HLT.out]; exact hr
              have hrl := lightN_le n l (deep - 1) r hr
              clear HC hr HLT
              go_wp2_with fail
              refine HC2.out.mono ?_
              rintro x w2 ⟨rfl, b2⟩
              go_wp2_with fail
              go_roundw
              case rel => exact ⟨i + 1, r, by go_num, rfl, hlt2, by omega, HLT2.out, HB.out.trans (b2.mono HB.out.size)⟩
              case measure => simp [intOf]; omega
          · have HV3 : Hid (lightN (.mk q t ks ns) left deep = some l) := by
              show _ = _
              have h := HS2.out
              rw [List.take_of_length_le (by omega)] at h
              rw [HV2.out, h]
            clear hb
            go_wp2_with fail
            exact bodyPost_ret (v := .tuple #[.int .i64 (l : Int), .bool true]) (by simp [results, Try.f18, go_sem]) rfl ⟨by rw [HV3.out]; rfl, HB0.out.trans (HB.out.mono HB0.out.size)⟩
mutual
theorem light_any : ∀ n : Node, LightC n
  | .mk q t ks ns => light_one q t ks ns fun j n hj => light_all ns j n hj
theorem light_all : ∀ (ns : List Node) (j : Nat) (n : Node), ns[j]? = some n → LightC n
  | [], j, n, h => by simp at h
  | m :: ns, 0, n, h => by
    have h1 : m = n := by simpa using h
    rw [← h1]; exact light_any m
  | m :: ns, j + 1, n, h => light_all ns j n (by simpa using h)
end
end Go.Proofs.Ytjnmcadfaombjaa

/- Walks: the law's mine. -/
namespace Go.Proofs.Ytjnmcadfaombjaa
open Go.RowKit
set_option linter.unusedVariables false
set_option linter.unusedSimpArgs false
set_option linter.constructorNameAsVariable false
theorem infoNJ : (Try.prog.info? 39).map (fun i => (i.zero, i.size, i.bytes)) = some (some zeroN, 4, 72) := by kernel_rfl
/-- The copy under way: the node that is read lies in block B, the result's box behind it, the copy behind that. -/
structure MidM (ok : Nat → Prop) (q : Nat) (x : ByteArray) (B : Nat) (w : World) (kv nv0 : Value) (ns : List Node) (nv : Value) (cs : List Value) (wr : World) : Prop where
  hI : Blk wr B 44 #[.int .u8 q, .string x, kv, nv0]
  hR : Blk wr (B + 1) 39 zeroNC
  hN : Blk wr (B + 2) 39 #[.int .u8 q, .string x, kv, nv]
  hnv : wr.ownsRow (B + 3) 39 4 nv ns.length cs
  hkids : KidsA wr (fun g => (ok g ∧ g < B) ∨ (B + 3 ≤ g ∧ nv.ownBlock ≠ some g)) ns cs
  bel : Below B w wr
variable {ok : Nat → Prop} {q : Nat} {x : ByteArray} {B : Nat} {w : World} {kv nv0 : Value} {ns : List Node} {nv : Value} {cs : List Value} {wr : World}
theorem MidM.below {w2 : World} (h : MidM ok q x B w kv nv0 ns nv cs wr) (hb : Below wr.heap.size wr w2) : MidM ok q x B w kv nv0 ns nv cs w2 :=
  ⟨h.hI.below hb h.hI.lt, h.hR.below hb h.hR.lt, h.hN.below hb h.hN.lt, ownsRow_ofBelow h.hnv hb,
    KidsA.mono (fun g hg hl => ⟨hg, by have := hb.size; omega, hb.block g hl⟩) ns cs h.hkids, h.bel.trans (hb.mono (Nat.le_of_lt h.hI.lt))⟩
theorem MidM.drew (h : MidM ok q x B w kv nv0 ns nv cs wr) : MidM ok q x B w kv nv0 ns nv cs wr.drew :=
  ⟨h.hI, h.hR, h.hN, h.hnv, KidsA.mono (w := wr) (w' := wr.drew) (fun g hg hl => ⟨hg, hl, rfl⟩) ns cs h.hkids, h.bel.drew⟩
/-- One kid more: w2 is the world behind its copy, w3 the one behind the append. -/
theorem MidM.kid {n : Node} {a b c d : Value} {wc w2 w3 : World} {g3 cap3 : Nat} {o1 : Obj} (hc : MidM ok q x B w kv nv0 ns nv cs wc) (h : MidM ok q x B w kv nv0 ns nv cs w2) (hsz : wc.heap.size ≤ w2.heap.size)
    (hn : NodeA w2 (fun g => (ok g ∧ g < B) ∨ wc.heap.size ≤ g) n (.agg #[a, b, c, d])) (hN3 : Blk w3 (B + 2) 39 #[.int .u8 q, .string x, kv, nv])
    (ho : w3.ownsRow (B + 3) 39 4 (.slice (some ⟨g3, 0, none⟩) (ns.length + 1) cap3) (ns.length + 1) (cs ++ [a, b, c, d]))
    (hg : (w2.alloc o1).grownBy w3 nv.ownBlock) (hf : nv.ownBlock = some g3 ∨ w2.heap.size ≤ g3) :
    MidM ok q x B w kv nv0 (ns ++ [n]) (.slice (some ⟨g3, 0, none⟩) (ns.length + 1) cap3) (cs ++ [a, b, c, d]) (w3.setCell ⟨B + 2, 3, none⟩ (.slice (some ⟨g3, 0, none⟩) (ns.length + 1) cap3)) := by
  have hnl := fun b hb => hc.hnv.lt b hb
  have hsz3 : w2.heap.size + 1 ≤ w3.heap.size := by have := hg.size; simpa using this
  have hsz4 : (w3.setCell ⟨B + 2, 3, none⟩ (.slice (some ⟨g3, 0, none⟩) (ns.length + 1) cap3)).heap.size = w3.heap.size := by simp [World.setCell]
  have hblk : ∀ k, k < w2.heap.size → k ≠ B + 2 → nv.ownBlock ≠ some k → (w3.setCell ⟨B + 2, 3, none⟩ (.slice (some ⟨g3, 0, none⟩) (ns.length + 1) cap3)).heap[k]? = w2.heap[k]? := by
    intro k hk hne hkn
    rw [Below.heap_setCell w3 ⟨B + 2, 3, none⟩ _ k hne, hg.block k (by simp; omega) (fun h => hkn h.symm)]
    exact Below.heap_alloc w2 o1 k hk
  have hRl := h.hR.lt
  have hNl := hc.hN.lt
  refine ⟨?_, ?_, hN3.set_ 3 _, ?_, ?_, ?_⟩
  · exact (hblk B (by omega) (by omega) (fun e => by have := (hnl B e).1; omega)).trans h.hI
  · exact (hblk (B + 1) hRl (by omega) (fun e => by have := (hnl (B + 1) e).1; omega)).trans h.hR
  · rw [List.length_append]; exact ownsRow_setCell_below ho (a := ⟨B + 2, 3, none⟩) (by show B + 2 < B + 3; omega) _
  · have hnew : ∀ g, g < w2.heap.size → nv.ownBlock ≠ some g → (Value.slice (some ⟨g3, 0, none⟩) (ns.length + 1) cap3).ownBlock ≠ some g := fun g hl e2 e => by
      simp [Value.ownBlock] at e
      subst e
      rcases hf with hf | hf
      · exact e2 hf
      · omega
    refine KidsA.snoc ?_ ns cs ?_
    · refine NodeA.mono (fun g hg2 hl => ?_) n _ hn
      have e2 : nv.ownBlock ≠ some g := fun e => by
        have := (hnl g e).1; have := (hnl g e).2
        rcases hg2 with h1 | h1 <;> omega
      refine ⟨?_, by omega, hblk g hl (by rcases hg2 with h1 | h1 <;> omega) e2⟩
      rcases hg2 with h1 | h1
      · exact .inl h1
      · exact .inr ⟨by omega, hnew g hl e2⟩
    · refine KidsA.mono (fun g hg2 hl => ?_) ns cs h.hkids
      have e2 : nv.ownBlock ≠ some g := by
        rcases hg2 with h1 | h1
        · intro e; have := (hnl g e).1; omega
        · exact h1.2
      refine ⟨?_, by omega, hblk g hl (by rcases hg2 with h1 | h1 <;> omega) e2⟩
      rcases hg2 with h1 | h1
      · exact .inl h1
      · exact .inr ⟨h1.1, hnew g hl e2⟩
  · exact h.bel.trans ⟨hg.os, hg.tape, hg.output, by omega, fun k hk => hblk k (by have := h.hI.lt; omega) (by omega) (fun e => by have := (hnl k e).1; omega)⟩
def MineC (n : Node) : Prop := ∀ (ok : Nat → Prop) (a b c e : Value) (w : World), NodeA w ok n (.agg #[a, b, c, e]) → SmallN n →
  Calls Try.prog 20 #[.agg #[a, b, c, e]] w fun x w' => (∃ a' b' c' e', x = .returned (.agg #[a', b', c', e']) ∧ NodeA w' (fun g => (ok g ∧ g < w.heap.size) ∨ w.heap.size ≤ g) n (.agg #[a', b', c', e'])) ∧ Below w.heap.size w w'
set_option maxRecDepth 100000 in
set_option maxHeartbeats 8000000 in
theorem mine_one (q : Nat) (t : List UInt8) (ks : List (List UInt8)) (ns : List Node) (hF : ∀ (j : Nat) (n : Node), ns[j]? = some n → MineC n) : MineC (.mk q t ks ns) := by
  intro ok a b c e w hn hs
  unfold NodeA at hn
  obtain ⟨kv, nv, cs, hv, h1, h2, h3⟩ := hn
  simp only [Value.agg.injEq, Array.mk.injEq, List.cons.injEq, and_true] at hv
  obtain ⟨rfl, rfl, rfl, rfl⟩ := hv
  obtain ⟨o1, c1, rfl⟩ := rowA_len h1
  obtain ⟨o2, c2, rfl⟩ := rowA_len h2
  unfold SmallN at hs
  obtain ⟨s1, s2, s3, s4, s5⟩ := hs
  have HK := Lib.hid h1
  have HR : Hid (RowA w (fun g => ok g ∧ g < w.heap.size) (.slice o2 ns.length c2) ns.length cs) := RowA.mono (fun g hg hl => ⟨⟨hg, hl⟩, hl, rfl⟩) h2
  have HKd : Hid (KidsA w (fun g => ok g ∧ g < w.heap.size) ns cs) := KidsA.mono (fun g hg hl => ⟨⟨hg, hl⟩, hl, rfl⟩) ns cs h3
  have HF := Lib.hid hF
  have HSm := Lib.hid s5
  clear h1 h2 h3 hF s5
  generalize hxx : strOf t = x at *
  have HX := Lib.hid hxx
  clear hxx
  go_enter Try.func20, Try.ntmps20
  go_upto_region 2 with fail
  have hI0 : Blk (((w.alloc (.cells #[.int .u8 q, .string x, .slice o1 ks.length c1, .slice o2 ns.length c2] 44)).alloc (.cells #[.int .u8 0, .string ⟨#[]⟩, .slice none 0 0, .slice none 0 0] 39)).alloc (.cells #[.int .u8 q, .string x, .slice o1 ks.length c1, .slice none 0 0] 39)) w.heap.size 44 #[.int .u8 q, .string x, .slice o1 ks.length c1, .slice o2 ns.length c2] := ((Blk.new w _ _).alloc _).alloc _
  have hR0 : Blk (((w.alloc (.cells #[.int .u8 q, .string x, .slice o1 ks.length c1, .slice o2 ns.length c2] 44)).alloc (.cells #[.int .u8 0, .string ⟨#[]⟩, .slice none 0 0, .slice none 0 0] 39)).alloc (.cells #[.int .u8 q, .string x, .slice o1 ks.length c1, .slice none 0 0] 39)) (w.heap.size + 1) 39 zeroNC := by
    have := (Blk.new (w.alloc (.cells #[.int .u8 q, .string x, .slice o1 ks.length c1, .slice o2 ns.length c2] 44)) 39 #[.int .u8 0, .string ⟨#[]⟩, .slice none 0 0, .slice none 0 0]).alloc (.cells #[.int .u8 q, .string x, .slice o1 ks.length c1, .slice none 0 0] 39)
    rwa [World.size_alloc] at this
  have hN0 : Blk (((w.alloc (.cells #[.int .u8 q, .string x, .slice o1 ks.length c1, .slice o2 ns.length c2] 44)).alloc (.cells #[.int .u8 0, .string ⟨#[]⟩, .slice none 0 0, .slice none 0 0] 39)).alloc (.cells #[.int .u8 q, .string x, .slice o1 ks.length c1, .slice none 0 0] 39)) (w.heap.size + 2) 39 #[.int .u8 q, .string x, .slice o1 ks.length c1, .slice none 0 0] := by
    have := Blk.new ((w.alloc (.cells #[.int .u8 q, .string x, .slice o1 ks.length c1, .slice o2 ns.length c2] 44)).alloc (.cells #[.int .u8 0, .string ⟨#[]⟩, .slice none 0 0, .slice none 0 0] 39)) 39 #[.int .u8 q, .string x, .slice o1 ks.length c1, .slice none 0 0]
    rwa [World.size_alloc, World.size_alloc] at this
  have hb0 : Below w.heap.size w (((w.alloc (.cells #[.int .u8 q, .string x, .slice o1 ks.length c1, .slice o2 ns.length c2] 44)).alloc (.cells #[.int .u8 0, .string ⟨#[]⟩, .slice none 0 0, .slice none 0 0] 39)).alloc (.cells #[.int .u8 q, .string x, .slice o1 ks.length c1, .slice none 0 0] 39)) := (((Below.refl w.heap.size w).alloc (Nat.le_refl _) _).alloc (by simp) _).alloc (by simp; omega) _
  have HM0 : Hid (MidM ok q x w.heap.size w (.slice o1 ks.length c1) (.slice o2 ns.length c2) [] (.slice none 0 0) [] (((w.alloc (.cells #[.int .u8 q, .string x, .slice o1 ks.length c1, .slice o2 ns.length c2] 44)).alloc (.cells #[.int .u8 0, .string ⟨#[]⟩, .slice none 0 0, .slice none 0 0] 39)).alloc (.cells #[.int .u8 q, .string x, .slice o1 ks.length c1, .slice none 0 0] 39))) := ⟨hI0, hR0, hN0, World.ownsRow_nil _ _ _ _, by unfold KidsA; rfl, hb0⟩
  clear hI0 hR0 hN0 hb0
  generalize (((w.alloc (.cells #[.int .u8 q, .string x, .slice o1 ks.length c1, .slice o2 ns.length c2] 44)).alloc (.cells #[.int .u8 0, .string ⟨#[]⟩, .slice none 0 0, .slice none 0 0] 39)).alloc (.cells #[.int .u8 q, .string x, .slice o1 ks.length c1, .slice none 0 0] 39)) = W0 at *
  go_wp2_with fail
  go_loopw [4] (fun z wr => ∃ (i : Nat) (nv : Value) (cs' : List Value), z = .int .i64 i ∧ i ≤ ns.length ∧ MidM ok q x w.heap.size w (.slice o1 ks.length c1) (.slice o2 ns.length c2) (ns.take i) nv cs' wr) (fun z _ => ns.length - (intOf z).toNat)
  case atStart => exact ⟨0, _, _, rfl, Nat.zero_le _, HM0.out⟩
  case round =>
    obtain ⟨i, nv, cs', rfl, hi, hM⟩ := hrel
    have HM := Lib.hid hM
    clear hM HM0
    have i3 : wr.cell? ⟨w.heap.size, 3, none⟩ = some (.slice o2 ns.length c2) := HM.out.hI.cell 3
    by_cases hlt : i < ns.length
    · obtain ⟨n, hn⟩ : ∃ n, ns[i]? = some n := ⟨_, List.getElem?_eq_getElem hlt⟩
      obtain ⟨g, o, cap', e0, e1, e2, e3', hv, p0, p1, p2, p3, hN⟩ := kidA_at HR.out HKd.out hn HM.out.bel
      simp only [Value.slice.injEq] at hv
      obtain ⟨rfl, _, rfl⟩ := hv
      have HC := Lib.hid (HF.out i n hn (fun g => ok g ∧ g < w.heap.size) e0 e1 e2 e3' wr.drew (NodeA.mono (w := wr) (w' := wr.drew) (fun g hg hl => ⟨hg, hl, rfl⟩) _ _ hN) (HSm.out.at hn))
      have o3 : wr.cell? ⟨w.heap.size + 1 + 1, 3, none⟩ = some nv := HM.out.hN.cell 3
      have hwl := HM.out.hN.lt
      clear hN
      go_upto_region 5 with fail
      obtain ⟨i0, hi0, hz0, hz1, hz2⟩ := info_parts infoNJ
      obtain ⟨o6, m6, c6, rfl⟩ := own_shape HM.out.hnv
      have htl : (ns.take i).length = i := by rw [List.length_take]; omega
      have e4 : (ns.take i).length + 1 ≤ maxLen := by unfold maxLen; omega
      have e5 : ((ns.take i).length + 1) * 72 ≤ 140737488355328 := by omega
      have HMd := Lib.hid HM.out.drew
      go_region_law (first | (go_simp; go_at_call 20; refine HC.out.mono ?_; rintro e w2 ⟨⟨na, nb, nc, nd, rfl, hnn⟩, hb2⟩; obtain ⟨v1, v2, v3, v4, v5, v6, v7, v8, rfl, rfl, rfl, rfl⟩ := nodeA_shape hnn; have hMc := HMd.out.below hb2; have e6 : w.heap.size + 3 ≤ (w2.alloc (.cells #[.int .u8 v1, .string v2, .slice v3 v4 v5, .slice v6 v7 v8] 39)).heap.size := (by have h9 : wr.heap.size ≤ w2.heap.size := hb2.size; rw [World.size_alloc]; omega); have hnc := hMc.hnv.alloc (.cells #[.int .u8 v1, .string v2, .slice v3 v4 v5, .slice v6 v7 v8] 39); have hNc := hMc.hN.alloc (.cells #[.int .u8 v1, .string v2, .slice v3 v4 v5, .slice v6 v7 v8] 39); have q3 : w2.cell? ⟨w.heap.size + 1 + 1, 3, none⟩ = some (.slice o6 m6 c6) := hMc.hN.cell 3; have q4 : (w2.alloc (.cells #[.int .u8 v1, .string v2, .slice v3 v4 v5, .slice v6 v7 v8] 39)).cell? ⟨w.heap.size + 1 + 1, 3, none⟩ = some (.slice o6 m6 c6) := hNc.cell 3) | (refine step_append_lies _ rfl (.tmp 20) (.tmp 27) 37 rfl (w.heap.size + 3) 39 i0 zeroN 4 72 Try.underlying37 hi0 hz0 hz1 hz2 rfl (by decide) (.slice o6 m6 c6) (ns.take i).length cs' rfl hnc ⟨w2.heap.size, 0, none⟩ 1 1 [.int .u8 v1, .string v2, .slice v3 v4 v5, .slice v6 v7 v8] rfl rfl (cells_new w2 #[.int .u8 v1, .string v2, .slice v3 v4 v5, .slice v6 v7 v8] _) (by simp [Value.oneCell']) (by omega) e4 e5 e6 (w2.heap.size + 1) (by simp) ?_; intro g3 cap3 w3 hown3 hgrow3 hfr3 hlt3; have hN3 : Blk w3 (w.heap.size + 2) 39 _ := (hgrow3.block (w.heap.size + 2) hNc.lt (fun h => by have := (hnc.lt _ h.symm).1; omega)).trans hNc; have m3 : w3.cell? ⟨w.heap.size + 1 + 1, 3, none⟩ = some (.slice o6 m6 c6) := hN3.cell 3; have mf : w3.frozen? ⟨w.heap.size + 1 + 1, 3, none⟩ = false := hN3.frozen 3))
      all_goals
        have hmk := MidM.kid (wc := wr.drew) HMd.out hMc hb2.size (NodeA.mono (fun g hg hl => ⟨hg.imp (fun h => h.1) id, hl, rfl⟩) n _ hnn) hN3 hown3 hgrow3 (hfr3.imp id (fun h => by omega))
        have htk : ns.take i ++ [n] = ns.take (i + 1) := by rw [List.take_add_one, hn]; rfl
        rw [htk, htl] at hmk
        have HMK := Lib.hid hmk
        clear hmk htk
        go_wp2_with fail
        go_roundw
        case rel => exact ⟨i + 1, _, _, by go_num, hlt, HMK.out⟩
        case measure => simp [intOf]; omega
    · obtain ⟨o6, m6, c6, rfl⟩ := own_shape HM.out.hnv
      have hie : i = ns.length := by omega
      have htk : ns.take i = ns := by rw [hie, List.take_length]
      have n0 : wr.cell? ⟨w.heap.size + 1 + 1, 0, none⟩ = some (.int .u8 q) := HM.out.hN.cell 0
      have n1 : wr.cell? ⟨w.heap.size + 1 + 1, 1, none⟩ = some (.string x) := HM.out.hN.cell 1
      have n2 : wr.cell? ⟨w.heap.size + 1 + 1, 2, none⟩ = some (.slice o1 ks.length c1) := HM.out.hN.cell 2
      have n3 : wr.cell? ⟨w.heap.size + 1 + 1, 3, none⟩ = some (.slice o6 m6 c6) := HM.out.hN.cell 3
      have r0 : wr.cell? ⟨w.heap.size + 1, 0, none⟩ = some (.int .u8 0) := HM.out.hR.cell 0
      have r1 : wr.cell? ⟨w.heap.size + 1, 1, none⟩ = some (.string ⟨#[]⟩) := HM.out.hR.cell 1
      have r2 : wr.cell? ⟨w.heap.size + 1, 2, none⟩ = some (.slice none 0 0) := HM.out.hR.cell 2
      have r3 : wr.cell? ⟨w.heap.size + 1, 3, none⟩ = some (.slice none 0 0) := HM.out.hR.cell 3
      have f0 := HM.out.hR.frozen 0
      have f1 := HM.out.hR.frozen 1
      have f2 := HM.out.hR.frozen 2
      have f3 := HM.out.hR.frozen 3
      have HTk := Lib.hid htk
      clear htk
      go_wp2_with fail
      have hF := (((HM.out.hR.set_ 0 (.int .u8 q)).set_ 1 (.string x)).set_ 2 (.slice o1 ks.length c1)).set_ 3 (.slice o6 m6 c6)
      have t0 : (World.setCell _ _ _).cell? _ = some (.int .u8 q) := hF.cell 0
      have t1 : (World.setCell _ _ _).cell? _ = some (.string x) := hF.cell 1
      have t2 : (World.setCell _ _ _).cell? _ = some (.slice o1 ks.length c1) := hF.cell 2
      have t3 : (World.setCell _ _ _).cell? _ = some (.slice o6 m6 c6) := hF.cell 3
      have hkv := HK.out
      have hb := HM.out.bel
      have hk4 : ∀ k, k ≠ w.heap.size + 1 → (((((wr.setCell ⟨w.heap.size + 1, 0, none⟩ (.int .u8 q)).setCell ⟨w.heap.size + 1, 1, none⟩ (.string x)).setCell ⟨w.heap.size + 1, 2, none⟩ (.slice o1 ks.length c1)).setCell ⟨w.heap.size + 1, 3, none⟩ (.slice o6 m6 c6)).heap[k]? = wr.heap[k]?) := fun k hk => far4 _ _ _ _ hk
      have hsz : ((((wr.setCell ⟨w.heap.size + 1, 0, none⟩ (.int .u8 q)).setCell ⟨w.heap.size + 1, 1, none⟩ (.string x)).setCell ⟨w.heap.size + 1, 2, none⟩ (.slice o1 ks.length c1)).setCell ⟨w.heap.size + 1, 3, none⟩ (.slice o6 m6 c6)).heap.size = wr.heap.size := by simp [World.setCell]
      have hnode : NodeA ((((wr.setCell ⟨w.heap.size + 1, 0, none⟩ (.int .u8 q)).setCell ⟨w.heap.size + 1, 1, none⟩ (.string x)).setCell ⟨w.heap.size + 1, 2, none⟩ (.slice o1 ks.length c1)).setCell ⟨w.heap.size + 1, 3, none⟩ (.slice o6 m6 c6)) (fun g => (ok g ∧ g < w.heap.size) ∨ w.heap.size ≤ g) (.mk q t ks ns) (.agg #[.int .u8 q, .string x, .slice o1 ks.length c1, .slice o6 m6 c6]) := by
        unfold NodeA
        refine ⟨_, _, cs', by rw [HX.out], ?_, ?_, ?_⟩
        · exact hkv.mono fun g hg hl => ⟨.inl ⟨hg, hl⟩, by rw [hsz]; have := hb.size; omega, by rw [hk4 g (by omega)]; exact hb.block g hl⟩
        · have h5 := HM.out.hnv
          rw [HTk.out] at h5
          exact (RowA.own (ok := fun g => w.heap.size + 3 ≤ g) h5 (fun g _ hg => hg)).mono fun g hg hl => ⟨.inr (by omega), by rw [hsz]; exact hl, hk4 g (by omega)⟩
        · have h6 := HM.out.hkids
          rw [HTk.out] at h6
          exact KidsA.mono (fun g hg hl => ⟨by rcases hg with h7 | h7; exact .inl h7; exact .inr (by omega), by rw [hsz]; exact hl, hk4 g (by rcases hg with h7 | h7 <;> omega)⟩) ns cs' h6
      exact bodyPost_ret (v := .agg #[.int .u8 q, .string x, .slice o1 ks.length c1, .slice o6 m6 c6]) (by simp [results, Try.f20, go_sem, t0, t1, t2, t3]) rfl ⟨⟨_, _, _, _, rfl, hnode⟩, (((hb.setCell (p := ⟨w.heap.size + 1, 0, none⟩) (Nat.le_succ _) _).setCell (p := ⟨w.heap.size + 1, 1, none⟩) (Nat.le_succ _) _).setCell (p := ⟨w.heap.size + 1, 2, none⟩) (Nat.le_succ _) _).setCell (p := ⟨w.heap.size + 1, 3, none⟩) (Nat.le_succ _) _⟩
mutual
theorem mine_any : ∀ n : Node, MineC n
  | .mk q t ks ns => mine_one q t ks ns fun j n hj => mine_all ns j n hj
theorem mine_all : ∀ (ns : List Node) (j : Nat) (n : Node), ns[j]? = some n → MineC n
  | [], j, n, h => by simp at h
  | m :: ns, 0, n, h => by
    have h1 : m = n := by simpa using h
    rw [← h1]; exact mine_any m
  | m :: ns, j + 1, n, h => mine_all ns j n (by simpa using h)
end
end Go.Proofs.Ytjnmcadfaombjaa

/- Walks: json.fits over kids whose rows may begin anywhere. -/
namespace Go.Proofs.Ytjnmcadfaombjaa
open Go.RowKit
set_option linter.unusedVariables false
set_option linter.unusedSimpArgs false
set_option linter.constructorNameAsVariable false
/-- What fits is told of a node. -/
def FitA (n : Node) (d : Nat) : Prop := ∀ (ok : Nat → Prop) (a b c e : Value) (w : World), NodeA w ok n (.agg #[a, b, c, e]) → Calls Try.prog 32 #[.agg #[a, b, c, e], .int .i64 d] w fun x w' => x = .returned (.bool (fitsN n d)) ∧ Below w.heap.size w w'
theorem fits2A_any (n : Node) (d D : Nat) (ok : Nat → Prop) (a b c e : Value) (w : World) (hn : NodeA w ok n (.agg #[a, b, c, e])) (hd : d ≤ 1000) (hD : w.cell? ⟨D, 0, none⟩ = some (.int .i64 d)) (hDl : D < w.heap.size) (hF : FitA n (d + 1)) :
    Calls Try.prog 51 #[.agg #[a, b, c, e], .pointer (some ⟨D, 0, none⟩)] w fun x w' => x = .returned (.bool (!fitsN n (d + 1))) ∧ Below w.heap.size w w' := by
  obtain ⟨u1, u2, u3, u4, u5, u6, u7, u8, rfl, rfl, rfl, rfl⟩ := nodeA_shape hn
  have hb := (Below.refl w.heap.size w).alloc (Nat.le_refl _) (.cells #[.int .u8 u1, .string u2, .slice u3 u4 u5, .slice u6 u7 u8] 39)
  have HB := Lib.hid hb
  have HF := Lib.hid (hF ok _ _ _ _ _ (NodeA.mono (ok' := ok) (fun g hg hl => ⟨hg, by simp; omega, Below.heap_alloc w (.cells #[.int .u8 u1, .string u2, .slice u3 u4 u5, .slice u6 u7 u8] 39) g hl⟩) n _ hn))
  have e0 := (hb.cell (p := ⟨D, 0, none⟩) hDl).trans hD
  generalize fitsN n (d + 1) = r at *
  clear hn hF hb hD
  go_enter Try.func51, Try.ntmps51
  go_wp2_with fail
  refine HF.out.mono ?_
  rintro x w2 ⟨rfl, b2⟩
  go_wp2_with fail
  go_ret
  exact ⟨rfl, HB.out.trans (b2.mono HB.out.size)⟩
set_option maxHeartbeats 2000000 in
theorem idxNA_any (ns : List Node) (cs : List Value) (ok : Nat → Prop) (v : Value) (d D : Nat) (w : World) (hr : RowA w ok v ns.length cs) (hk : KidsA w ok ns cs) (hl : ns.length ≤ 1000000) (hd : d ≤ 1000) (hD : w.cell? ⟨D, 0, none⟩ = some (.int .i64 d)) (hDl : D < w.heap.size)
    (hF : ∀ (j : Nat) (n : Node), ns[j]? = some n → FitA n (d + 1)) :
    ∃ r : Int, decide (0 ≤ r) = !fitsL ns (d + 1) ∧ Calls Try.prog 69 #[v, .func (Fn.func 51) #[] #[.pointer (some ⟨D, 0, none⟩)]] w fun e w' => e = .returned (.int .i64 r) ∧ Below w.heap.size w w' := by
  have HR := Lib.hid hr
  have HK := Lib.hid hk
  have HD := Lib.hid hD
  have HF := Lib.hid hF
  obtain ⟨o1, cap, rfl⟩ := rowA_len hr
  clear hr hk hD hF
  rcases first_misfit ns (d + 1) with ⟨i, n, hn, hg, hj⟩ | hall
  · have hi := (List.getElem?_eq_some_iff.1 hn).1
    refine ⟨i, ?_, ?_⟩
    · rw [decide_eq_true (by omega)]
      have : fitsL ns (d + 1) = false := by
        rw [Bool.eq_false_iff]; intro h
        rw [fitsL_at.1 h i n hn] at hg; cases hg
      rw [this]; rfl
    · have HJ := Lib.hid hj
      have HU := Lib.hid (And.intro hn hg)
      clear hj hn hg
      go_enter Try.func69, Try.ntmps69
      go_wp2_with fail
      go_loopw [8] (fun z wr => ∃ k : Nat, z = .int .i64 k ∧ k ≤ i ∧ Below w.heap.size w wr) (fun z _ => ns.length - (intOf z).toNat)
      case atStart => exact ⟨0, rfl, Nat.zero_le _, Below.refl _ _⟩
      case round =>
        obtain ⟨k, rfl, hki, hb⟩ := hrel
        have hkl : k < ns.length := by omega
        obtain ⟨m, hm⟩ : ∃ m, ns[k]? = some m := ⟨_, List.getElem?_eq_getElem hkl⟩
        obtain ⟨g, o, cap', va, vb, vc, vd, hv, c0, c1, c2, c3, hN⟩ := kidA_at HR.out HK.out hm hb
        simp only [Value.slice.injEq] at hv
        obtain ⟨rfl, _, rfl⟩ := hv
        have HC := Lib.hid (fits2A_any m d D ok va vb vc vd wr hN hd ((hb.cell (p := ⟨D, 0, none⟩) hDl).trans HD.out) (Nat.lt_of_lt_of_le hDl hb.size) (HF.out k m hm))
        have HB := Lib.hid hb
        have HX := Lib.hid hm
        clear hb hm hN
        by_cases hlt : k < i
        · rw [HJ.out k m hlt HX.out] at HC
          go_wp2_with fail
          refine HC.out.mono ?_
          rintro e w2 ⟨rfl, b2⟩
          go_wp2_with fail
          go_roundw
          case rel => exact ⟨k + 1, by go_num, hlt, HB.out.trans (b2.mono HB.out.size)⟩
          case measure => simp [intOf]; omega
        · obtain rfl : k = i := by omega
          have hgx : fitsN m (d + 1) = false := by have h1 := HU.out.1; have h2 := HX.out; rw [h1] at h2; rw [← Option.some.inj h2]; exact HU.out.2
          rw [hgx] at HC
          clear hgx
          go_wp2_with fail
          refine HC.out.mono ?_
          rintro e w2 ⟨rfl, b2⟩
          go_wp2_with fail
          go_ret
          exact ⟨rfl, HB.out.trans (b2.mono HB.out.size)⟩
  · refine ⟨-1, ?_, ?_⟩
    · rw [decide_eq_false (by omega), fitsL_at.2 hall]; rfl
    · have HJ := Lib.hid hall
      clear hall
      go_enter Try.func69, Try.ntmps69
      go_wp2_with fail
      go_loopw [8] (fun z wr => ∃ k : Nat, z = .int .i64 k ∧ k ≤ ns.length ∧ Below w.heap.size w wr) (fun z _ => ns.length - (intOf z).toNat)
      case atStart => exact ⟨0, rfl, Nat.zero_le _, Below.refl _ _⟩
      case round =>
        obtain ⟨k, rfl, hki, hb⟩ := hrel
        by_cases hkl : k < ns.length
        · obtain ⟨m, hm⟩ : ∃ m, ns[k]? = some m := ⟨_, List.getElem?_eq_getElem hkl⟩
          obtain ⟨g, o, cap', va, vb, vc, vd, hv, c0, c1, c2, c3, hN⟩ := kidA_at HR.out HK.out hm hb
          simp only [Value.slice.injEq] at hv
          obtain ⟨rfl, _, rfl⟩ := hv
          have HC := Lib.hid (fits2A_any m d D ok va vb vc vd wr hN hd ((hb.cell (p := ⟨D, 0, none⟩) hDl).trans HD.out) (Nat.lt_of_lt_of_le hDl hb.size) (HF.out k m hm))
          rw [HJ.out k m hm] at HC
          have HB := Lib.hid hb
          clear hb hm hN
          go_wp2_with fail
          refine HC.out.mono ?_
          rintro e w2 ⟨rfl, b2⟩
          go_wp2_with fail
          go_roundw
          case rel => exact ⟨k + 1, by go_num, hkl, HB.out.trans (b2.mono HB.out.size)⟩
          case measure => simp [intOf]; omega
        · have HB := Lib.hid hb
          clear hb
          go_wp2_with fail
          go_ret
          exact ⟨rfl, HB.out⟩
/-- slices.ContainsFunc over nodes. -/
theorem hasNA_any (ns : List Node) (cs : List Value) (ok : Nat → Prop) (v : Value) (d D : Nat) (w : World) (hr : RowA w ok v ns.length cs) (hk : KidsA w ok ns cs) (hl : ns.length ≤ 1000000) (hd : d ≤ 1000) (hD : w.cell? ⟨D, 0, none⟩ = some (.int .i64 d)) (hDl : D < w.heap.size)
    (hF : ∀ (j : Nat) (n : Node), ns[j]? = some n → FitA n (d + 1)) :
    Calls Try.prog 50 #[v, .func (Fn.func 51) #[] #[.pointer (some ⟨D, 0, none⟩)]] w fun e w' => e = .returned (.bool (!fitsL ns (d + 1))) ∧ Below w.heap.size w w' := by
  obtain ⟨r, hr1, hi⟩ := idxNA_any ns cs ok v d D w hr hk hl hd hD hDl hF
  obtain ⟨o1, cap, rfl⟩ := rowA_len hr
  have HI := Lib.hid hi
  rw [← hr1]
  clear hi hr1 hr hk hF hD
  go_enter Try.func50, Try.ntmps50
  go_wp2_with fail
  refine HI.out.mono ?_
  rintro e w2 ⟨rfl, b2⟩
  go_wp2_with fail
  go_ret
  exact ⟨rfl, b2⟩
end Go.Proofs.Ytjnmcadfaombjaa

/- Walks: json.fits and json.Is of a node whose rows may begin anywhere. -/
namespace Go.Proofs.Ytjnmcadfaombjaa
open Go.RowKit
set_option linter.unusedVariables false
set_option linter.unusedSimpArgs false
set_option linter.constructorNameAsVariable false
set_option maxRecDepth 100000 in
set_option maxHeartbeats 8000000 in
theorem fitsA_one (q : Nat) (t : List UInt8) (ks : List (List UInt8)) (ns : List Node) (d : Nat) (ok : Nat → Prop) (a b c e : Value) (w : World) (hn : NodeA w ok (.mk q t ks ns) (.agg #[a, b, c, e])) (hd : d ≤ 1000) (hs : SmallN (.mk q t ks ns))
    (hF : d ≤ 32 → ∀ (j : Nat) (n : Node), ns[j]? = some n → FitA n (d + 1)) :
    Calls Try.prog 32 #[.agg #[a, b, c, e], .int .i64 d] w fun x w' => x = .returned (.bool (fitsN (.mk q t ks ns) d)) ∧ Below w.heap.size w w' := by
  unfold NodeA at hn
  obtain ⟨kv, nv, cs, hv, h1, h2, h3⟩ := hn
  simp only [Value.agg.injEq, Array.mk.injEq, List.cons.injEq, and_true] at hv
  obtain ⟨rfl, rfl, rfl, rfl⟩ := hv
  obtain ⟨o1, c1, rfl⟩ := rowA_len h1
  obtain ⟨o2, c2, rfl⟩ := rowA_len h2
  unfold SmallN at hs
  obtain ⟨s1, s2, s3, s4, s5⟩ := hs
  have HT := Lib.hid (TxtA.of h1)
  have HRW := Lib.hid h2
  have HKW := Lib.hid h3
  have HF := Lib.hid hF
  have HS2 := Lib.hid s2
  have HP := Lib.hid (fun w => pis_any (strOf t) w (by rw [strOf_size]; omega))
  have HA := Lib.hid (fun w => jalone (strOf t) q w (by rw [strOf_size]; omega))
  rw [strOf_list] at HP HA
  have HV : Hid (fitsN (.mk q t ks ns) d = (decide (d ≤ 32) && good t && okK q t ks ns && fitsL ns (d + 1))) := by show _ = _; rw [fitsN]
  have e1 := sum_zero ks.length ns.length
  have e2 := str_nil t
  have e3 := str_nil2 t
  obtain ⟨et, het⟩ : ∃ et, decide (t = []) = et := ⟨_, rfl⟩
  rw [het] at e2 e3
  have HET := Lib.hid het
  generalize hxx : strOf t = x at *
  clear hxx h1 h2 h3 hF s2 s5 het
  have HN0 := Lib.hid ((Blk.new w 39 #[.int .u8 q, .string x, .slice o1 ks.length c1, .slice o2 ns.length c2]).alloc (.cells #[.int .i64 d] 3))
  have HD0 : Hid (Blk ((w.alloc (.cells #[.int .u8 q, .string x, .slice o1 ks.length c1, .slice o2 ns.length c2] 39)).alloc (.cells #[.int .i64 d] 3)) (w.heap.size + 1) 3 #[.int .i64 d]) := by
    have := Blk.new (w.alloc (.cells #[.int .u8 q, .string x, .slice o1 ks.length c1, .slice o2 ns.length c2] 39)) 3 #[.int .i64 d]
    rwa [World.size_alloc] at this
  have HB0 := Lib.hid (((Below.refl w.heap.size w).alloc (Nat.le_refl _) (.cells #[.int .u8 q, .string x, .slice o1 ks.length c1, .slice o2 ns.length c2] 39)).alloc (by simp) (.cells #[.int .i64 d] 3))
  go_enter Try.func32, Try.ntmps32
  go_upto_region 1 with fail
  generalize (w.alloc (.cells #[.int .u8 q, .string x, .slice o1 ks.length c1, .slice o2 ns.length c2] 39)).alloc (.cells #[.int .i64 d] 3) = W0 at *
  have dd := HD0.out.cell 0
  have n1 := HN0.out.cell 1
  by_cases h32 : d ≤ 32
  · have hq32 : ¬ ((32 : Int) < (d : Int)) := by omega
    rw [decide_eq_true h32, Bool.true_and] at HV
    go_wp2_with fail
    refine (HP.out _).mono ?_
    rintro e w2 ⟨rfl, b2⟩
    have HN2 := Lib.hid (HN0.out.below b2 HN0.out.lt)
    have HD2 := Lib.hid (HD0.out.below b2 HD0.out.lt)
    have HB2 := Lib.hid (HB0.out.trans (b2.mono HB0.out.size))
    have HWb := HN2.out.lt
    have HDb := HD2.out.lt
    have HF2 := Lib.hid (HF.out h32)
    clear dd n1 b2 HN0 HD0 HB0 hq32 HF h32
    have n0 := HN2.out.cell 0
    have n1 := HN2.out.cell 1
    have n2 := HN2.out.cell 2
    have n3 := HN2.out.cell 3
    cases hg : good t
    · rw [hg] at HV
      clear HP HA
      go_wp2_with fail
      go_ret
      exact ⟨by rw [HV.out]; rfl, HB2.out⟩
    · rw [hg, Bool.true_and] at HV
      clear HP
      have HT2 := Lib.hid (txtA_below HT.out HB2.out)
      have HCN := Lib.hid (fun wr (hb : Below w2.heap.size w2 wr) => hasNA_any ns cs ok (.slice o2 ns.length c2) d (w.heap.size + 1) wr (RowA.mono (ok' := ok) (fun g hg hl => ⟨hg, Nat.lt_of_lt_of_le hl (HB2.out.trans (hb.mono HB2.out.size)).size, (HB2.out.trans (hb.mono HB2.out.size)).block g hl⟩) HRW.out) (KidsA.mono (ok' := ok) (fun g hg hl => ⟨hg, Nat.lt_of_lt_of_le hl (HB2.out.trans (hb.mono HB2.out.size)).size, (HB2.out.trans (hb.mono HB2.out.size)).block g hl⟩) ns cs HKW.out) (by omega) hd ((HD2.out.below hb HDb).cell 0) (Nat.lt_of_lt_of_le HDb hb.size) HF2.out)
      clear HT HRW HKW HF2 HD2
      by_cases q34 : q = 34
      · subst q34
        have HV2 : Hid (fitsN (.mk 34 t ks ns) d = decide (ks.length + ns.length = 0)) := by
          show _ = _
          rw [HV.out, show okK 34 t ks ns = decide (ks.length + ns.length = 0) from if_pos rfl]
          by_cases h : ks.length + ns.length = 0
          · have h5 : ns = [] := List.length_eq_zero_iff.1 (by omega)
            rw [decide_eq_true h, h5]; rfl
          · rw [decide_eq_false h]; rfl
        obtain ⟨r, hr⟩ : ∃ r, decide (ks.length + ns.length = 0) = r := ⟨_, rfl⟩
        rw [hr] at e1 HV2
        clear HV HA HCN HT2 hg hr
        go_wp2_with fail
        go_ret
        exact ⟨by rw [HV2.out]; rfl, HB2.out⟩
      have c34 : ((q : Int) == 34) = false := by simp; omega
      by_cases q48 : q = 48 ∨ q = 97
      · have HV2 : Hid (fitsN (.mk q t ks ns) d = (decide (ks.length + ns.length = 0) && aloneB t q)) := by
          show _ = _
          rw [HV.out, show okK q t ks ns = (decide (ks.length + ns.length = 0) && aloneB t q) from (if_neg q34).trans (if_pos q48)]
          by_cases h : ks.length + ns.length = 0
          · have h5 : ns = [] := List.length_eq_zero_iff.1 (by omega)
            rw [decide_eq_true h, h5]; simp [fitsL]
          · rw [decide_eq_false h]; rfl
        obtain ⟨b1, hb1⟩ : ∃ b1, decide (ks.length + ns.length = 0) = b1 := ⟨_, rfl⟩
        rw [hb1] at e1 HV2
        generalize aloneB t q = r at *
        have HQ := Lib.hid q34
        clear HV HCN HT2 hg hb1 q34
        rcases q48 with rfl | rfl
        all_goals
          cases b1
          · go_wp2_with fail
            go_ret
            exact ⟨by rw [HV2.out]; rfl, HB2.out⟩
          · go_wp2_with fail
            refine (HA.out _).mono ?_
            rintro e w3 ⟨rfl, b3⟩
            go_wp2_with fail
            go_ret
            exact ⟨by rw [HV2.out]; rfl, HB2.out.trans (b3.mono HB2.out.size)⟩
      have c48 : ((q : Int) == 48) = false := by simp; omega
      have c97 : ((q : Int) == 97) = false := by simp; omega
      by_cases q91 : q = 91
      · subst q91
        have HV2 : Hid (fitsN (.mk 91 t ks ns) d = (decide (ks.length = 0) && et && fitsL ns (d + 1))) := by
          show _ = _
          rw [HV.out, show okK 91 t ks ns = (decide (ks.length = 0) && decide (t = [])) from rfl, HET.out]
        clear HV HA HT2 hg q34 q48 c34 c48 c97 e1
        by_cases hk0 : ks.length = 0
        · rw [decide_eq_true hk0, Bool.true_and] at HV2
          have hk1 : ¬ ((0 : Int) < (ks.length : Int)) := by omega
          clear hk0
          cases et
          · go_wp2_with fail
            go_ret
            exact ⟨by rw [HV2.out]; rfl, HB2.out⟩
          · rw [Bool.true_and] at HV2
            have HC := Lib.hid (HCN.out w2 (Below.refl _ _))
            obtain ⟨r, hr⟩ : ∃ r, fitsL ns (d + 1) = r := ⟨_, rfl⟩
            rw [hr] at HC HV2
            clear HCN hr
            go_wp2_with fail
            refine HC.out.mono ?_
            rintro e w5 ⟨rfl, b5⟩
            go_wp2_with fail
            go_ret
            exact ⟨by rw [HV2.out]; simp, (HB2.out).trans (b5.mono (HB2.out).size)⟩
        · rw [decide_eq_false hk0] at HV2
          have hk1 : (0 : Int) < (ks.length : Int) := by omega
          clear hk0
          go_wp2_with fail
          go_ret
          exact ⟨by rw [HV2.out]; rfl, HB2.out⟩
      have c91 : ((q : Int) == 91) = false := by simp; omega
      by_cases q123 : q = 123
      · subst q123
        have HV2 : Hid (fitsN (.mk 123 t ks ns) d = (decide (ks.length = ns.length) && (ks.all fun k => good k) && et && fitsL ns (d + 1))) := by
          show _ = _
          rw [HV.out, show okK 123 t ks ns = (decide (ks.length = ns.length) && (ks.all fun k => good k) && decide (t = [])) from rfl, HET.out]
        clear HV HA hg q34 q48 q91 c34 c48 c97 c91 e1
        by_cases hkn : ks.length = ns.length
        · rw [decide_eq_true hkn, Bool.true_and] at HV2
          have hk1 : ((ks.length : Int) != (ns.length : Int)) = false := by rw [hkn]; simp
          have HHS := Lib.hid (hasSA_any ks (.slice o1 ks.length c1) w2 HT2.out (by omega) (fun u hu => by have := HS2.out u hu; omega))
          have hall : (ks.any fun k => !good k) = !(ks.all fun k => good k) := by rw [List.not_all_eq_any_not]
          rw [hall] at HHS
          generalize (ks.all fun k => good k) = ag at *
          clear hall hkn HT2
          cases ag
          · go_wp2_with fail
            refine HHS.out.mono ?_
            rintro e w3 ⟨rfl, b3⟩
            go_wp2_with fail
            go_ret
            exact ⟨by rw [HV2.out]; rfl, HB2.out.trans (b3.mono HB2.out.size)⟩
          · rw [Bool.true_and] at HV2
            go_wp2_with fail
            refine HHS.out.mono ?_
            rintro e w3 ⟨rfl, b3⟩
            have HN3 := Lib.hid (HN2.out.below b3 HWb)
            clear n0 n1 n2 n3
            have n1 := HN3.out.cell 1
            have n3 := HN3.out.cell 3
            cases et
            · go_wp2_with fail
              go_ret
              exact ⟨by rw [HV2.out]; rfl, HB2.out.trans (b3.mono HB2.out.size)⟩
            · rw [Bool.true_and] at HV2
              have HC := Lib.hid (HCN.out w3 b3)
              obtain ⟨r, hr⟩ : ∃ r, fitsL ns (d + 1) = r := ⟨_, rfl⟩
              rw [hr] at HC HV2
              clear HCN hr
              go_wp2_with fail
              refine HC.out.mono ?_
              rintro e w5 ⟨rfl, b5⟩
              go_wp2_with fail
              go_ret
              exact ⟨by rw [HV2.out]; simp, (HB2.out.trans (b3.mono HB2.out.size)).trans (b5.mono (HB2.out.trans (b3.mono HB2.out.size)).size)⟩
        · rw [decide_eq_false hkn] at HV2
          have hk1 : ((ks.length : Int) != (ns.length : Int)) = true := by simp only [bne_iff_ne]; omega
          clear hkn
          go_wp2_with fail
          go_ret
          exact ⟨by rw [HV2.out]; rfl, HB2.out⟩
      have c123 : ((q : Int) == 123) = false := by simp; omega
      have HV2 : Hid (fitsN (.mk q t ks ns) d = false) := by
        show _ = _
        rw [HV.out, show okK q t ks ns = false by unfold okK; rw [if_neg q34, if_neg q48, if_neg q91, if_neg q123]]; rfl
      clear HV HA HCN HT2 hg q34 q48 q91 q123
      go_wp2_with fail
      go_ret
      exact ⟨by rw [HV2.out]; rfl, HB2.out⟩
  · have hq32 : (32 : Int) < (d : Int) := by omega
    have HV2 : Hid (fitsN (.mk q t ks ns) d = false) := by show _ = _; rw [HV.out, decide_eq_false h32]; rfl
    clear HV HP HA h32
    go_wp2_with fail
    go_ret
    exact ⟨by rw [HV2.out]; rfl, HB0.out⟩
mutual
theorem fitsA_any : ∀ (n : Node) (d : Nat), d ≤ 33 → SmallN n → FitA n d
  | .mk q t ks ns, d, hd, hs => fun ok a b c e w hn => fitsA_one q t ks ns d ok a b c e w hn (by omega) hs (fun h j n hj => fitsA_all ns (d + 1) (by omega) (by unfold SmallN at hs; exact hs.2.2.2.2) j n hj)
theorem fitsA_all : ∀ (ns : List Node) (d : Nat), d ≤ 33 → SmallL ns → ∀ (j : Nat) (n : Node), ns[j]? = some n → FitA n d
  | [], d, hd, hs, j, n, h => by simp at h
  | m :: ns, d, hd, hs, 0, n, h => by
    have h1 : m = n := by simpa using h
    rw [← h1]
    unfold SmallL at hs
    exact fitsA_any m d hd hs.1
  | m :: ns, d, hd, hs, j + 1, n, h => by
    unfold SmallL at hs
    exact fitsA_all ns d hd hs.2 j n (by simpa using h)
end
theorem jisA_any (n : Node) (ok : Nat → Prop) (a b c e : Value) (w : World) (hn : NodeA w ok n (.agg #[a, b, c, e])) (hs : SmallN n) :
    Calls Try.prog 17 #[.agg #[a, b, c, e]] w fun x w' => x = .returned (.bool (fitsN n 1)) ∧ Below w.heap.size w w' := by
  obtain ⟨u1, u2, u3, u4, u5, u6, u7, u8, rfl, rfl, rfl, rfl⟩ := nodeA_shape hn
  have HB := Lib.hid ((Below.refl w.heap.size w).alloc (Nat.le_refl _) (.cells #[.int .u8 u1, .string u2, .slice u3 u4 u5, .slice u6 u7 u8] 39))
  have HF := Lib.hid (fitsA_any n 1 (by omega) hs ok _ _ _ _ _ (NodeA.mono (ok' := ok) (fun g hg hl => ⟨hg, by simp; omega, Below.heap_alloc w (.cells #[.int .u8 u1, .string u2, .slice u3 u4 u5, .slice u6 u7 u8] 39) g hl⟩) n _ hn))
  generalize fitsN n 1 = r at *
  clear hn hs
  go_enter Try.func17, Try.ntmps17
  go_wp2_with fail
  refine HF.out.mono ?_
  rintro x w2 ⟨rfl, b2⟩
  go_wp2_with fail
  go_ret
  exact ⟨rfl, HB.out.trans (b2.mono HB.out.size)⟩
end Go.Proofs.Ytjnmcadfaombjaa

/- Plain: a node that came in as an argument lies in memory as a node. -/
namespace Go.Proofs.Ytjnmcadfaombjaa
open Go.ChangeShapes Go.WideShapes Go.ChangeAt Go.RowKit
set_option linter.unusedVariables false
set_option linter.unusedSimpArgs false
set_option linter.constructorNameAsVariable false
theorem cell_addr {w : World} {a : Addr} {v : Value} (h : w.cell? a = some v) : a.block < w.heap.size ∧ a = ⟨a.block, a.off, none⟩ := by
  obtain ⟨b, off, spot⟩ := a
  unfold World.cell? at h
  dsimp only at h
  cases hb : w.heap[b]? with
  | none => rw [hb] at h; cases h
  | some o =>
    have hl := (Array.getElem?_eq_some_iff.1 hb).1
    refine ⟨hl, ?_⟩
    rw [hb] at h
    cases spot with
    | none => rfl
    | some s => cases o <;> simp at h
section
variable {H : Type} {enc : TypeId × Value → H} {w : World}
theorem strs_arg {fuel : Nat} {c : Value} {x : DataW H × List MemPlace} (h : DataW.trod enc Try.prog w 0 (fun _ => true) true fuel 36 [c] = some x) :
    ∃ ks : List (List UInt8), RowA w (fun _ => True) c ks.length (strC ks) := by
  rcases DataW.trod_slice Try.underlying36 h with ⟨hc, _⟩ | ⟨a, len, cap, elems, rest, n, _, hc, _, _, hl, hm, hlen, hel, _, _⟩
  · cases hc
    exact ⟨[], .inl ⟨_, _, rfl, rfl, rfl⟩⟩
  · cases hc
    have hC : Try.prog.cellsOf 9 = 1 := by kernel_rfl
    have key : ∀ i, ∃ s : ByteArray, i < len → w.cell? (a.add i) = some (.string s) := by
      intro i
      by_cases hi : i < len
      · have h1 := hel i hi
        rw [hC, Nat.mul_one, List.getElem?_eq_getElem (by omega)] at h1
        obtain ⟨cs', h2, h3⟩ := Option.bind_eq_some_iff.1 h1
        obtain ⟨_, h4, h5⟩ := World.cells?_some h2
        obtain ⟨s, rfl, _, hs⟩ := DataW.trod_string Try.underlying9 h3
        have h6 := h5 0 (by omega)
        have e : (a.add i).add 0 = a.add i := if_pos rfl
        rw [e] at h6
        exact ⟨s, fun _ => h6⟩
      · exact ⟨.empty, fun h => absurd h hi⟩
    obtain ⟨f, hf⟩ := Classical.skolem.1 key
    have hkl : ((List.range len).map fun i => (f i).data.toList).length = len := by simp
    refine ⟨(List.range len).map fun i => (f i).data.toList, ?_⟩
    rcases Nat.eq_zero_or_pos len with h0 | h0
    · subst h0
      exact .inl ⟨_, _, rfl, rfl, rfl⟩
    · have h1 := hf 0 h0
      rw [show a.add 0 = a from if_pos rfl] at h1
      obtain ⟨hb, ha⟩ := cell_addr h1
      generalize a.block = g at *
      generalize a.off = o at *
      subst ha
      rw [hkl]
      refine .inr ⟨g, o, cap, rfl, trivial, hb, fun m u hu => ?_⟩
      unfold strC at hu
      rw [List.map_map] at hu
      obtain ⟨hm1, hm2⟩ := List.getElem?_eq_some_iff.1 hu
      simp only [List.length_map, List.length_range] at hm1
      have h2 := hf m hm1
      rw [Addr.add_lit] at h2
      rw [h2, ← hm2]
      simp [strOf_data]
theorem list4 {α : Type} {l : List α} (h : l.length = 4) : ∃ a b c d, l = [a, b, c, d] := by
  match l, h with
  | [a, b, c, d], _ => exact ⟨a, b, c, d, rfl⟩
set_option maxRecDepth 100000 in
theorem node_arg : ∀ (fuel : Nat) (cs : List Value) (x : DataW H × List MemPlace), DataW.trod enc Try.prog w 0 (fun _ => true) true fuel 44 cs = some x →
    ∃ (n : Node) (a b c e : Value), cs = [a, b, c, e] ∧ NodeA w (fun _ => True) n (.agg #[a, b, c, e]) := by
  intro fuel
  induction fuel using Nat.strongRecOn with
  | _ fuel ih =>
    intro cs x h
    obtain ⟨xs, n, hfu, _, hcl, hxl, hf⟩ := DataW.trod_struct Try.underlying44 h
    have hC : Try.prog.cellsOf 44 = 4 := by kernel_rfl
    have hC1 : Try.prog.cellsOf 9 = 1 := by kernel_rfl
    have hC2 : Try.prog.cellsOf 5 = 1 := by kernel_rfl
    have hC3 : Try.prog.cellsOf 36 = 1 := by kernel_rfl
    have hC4 : Try.prog.cellsOf 42 = 1 := by kernel_rfl
    rw [hC] at hcl
    obtain ⟨c0, c1, c2, c3, rfl⟩ := list4 hcl
    obtain ⟨y0, y1, y2, y3, rfl⟩ := list4 (show xs.length = 4 from hxl)
    · ·
        have g0 : DataW.trod enc Try.prog w 0 (fun _ => true) true n 5 ((List.drop 0 [c0, c1, c2, c3]).take (Try.prog.cellsOf 5)) = some y0 := hf 0 _ rfl
        have g1 : DataW.trod enc Try.prog w 0 (fun _ => true) true n 9 ((List.drop 1 [c0, c1, c2, c3]).take (Try.prog.cellsOf 9)) = some y1 := hf 1 _ rfl
        have g2 : DataW.trod enc Try.prog w 0 (fun _ => true) true n 36 ((List.drop 2 [c0, c1, c2, c3]).take (Try.prog.cellsOf 36)) = some y2 := hf 2 _ rfl
        have g3 : DataW.trod enc Try.prog w 0 (fun _ => true) true n 42 ((List.drop 3 [c0, c1, c2, c3]).take (Try.prog.cellsOf 42)) = some y3 := hf 3 _ rfl
        rw [hC2] at g0
        rw [hC1] at g1
        rw [hC3] at g2
        rw [hC4] at g3
        obtain ⟨k, e0, _, hk⟩ := DataW.trod_int Try.underlying5 g0
        obtain ⟨s, e1, _, _⟩ := DataW.trod_string Try.underlying9 g1
        obtain ⟨ks, hks⟩ := strs_arg g2
        have hb := bounds_u8 hk
        obtain ⟨q, rfl⟩ : ∃ q : Nat, k = q := ⟨k.toNat, by omega⟩
        obtain rfl : c0 = .int .u8 q := by simpa using e0
        obtain rfl : c1 = .string s := by simpa using e1
        obtain ⟨ns, cs2, hr, hkd⟩ : ∃ (ns : List Node) (cs2 : List Value), RowA w (fun _ => True) c3 ns.length cs2 ∧ KidsA w (fun _ => True) ns cs2 := by
          rcases DataW.trod_slice Try.underlying42 g3 with ⟨hc, _⟩ | ⟨a, len, cap, elems, rest, n2, hn2, hc, _, _, hl, hm, hlen, hel, _, _⟩
          · cases hc
            exact ⟨[], [], .inl ⟨_, _, rfl, rfl, rfl⟩, by unfold KidsA; rfl⟩
          · cases hc
            have key : ∀ i, ∃ p : Node × Value × Value × Value × Value, i < len → (w.cell? (a.add (i * 4)) = some p.2.1 ∧ w.cell? ((a.add (i * 4)).add 1) = some p.2.2.1 ∧ w.cell? ((a.add (i * 4)).add 2) = some p.2.2.2.1 ∧ w.cell? ((a.add (i * 4)).add 3) = some p.2.2.2.2) ∧
                NodeA w (fun _ => True) p.1 (.agg #[p.2.1, p.2.2.1, p.2.2.2.1, p.2.2.2.2]) := by
              intro i
              by_cases hi : i < len
              · have h1 := hel i hi
                rw [hC, List.getElem?_eq_getElem (by omega)] at h1
                obtain ⟨cs', h2, h3⟩ := Option.bind_eq_some_iff.1 h1
                obtain ⟨_, h4, h5⟩ := World.cells?_some h2
                obtain ⟨m, a', b', c', e', hcs, hN⟩ := ih n2 (by omega) cs' _ h3
                subst hcs
                have z : (a.add (i * 4)).add 0 = a.add (i * 4) := if_pos rfl
                have j0 := h5 0 (by omega)
                rw [z] at j0
                exact ⟨(m, a', b', c', e'), fun _ => ⟨⟨j0, h5 1 (by omega), h5 2 (by omega), h5 3 (by omega)⟩, hN⟩⟩
              · exact ⟨(.mk 0 [] [] [], .bool true, .bool true, .bool true, .bool true), fun h => absurd h hi⟩
            obtain ⟨f, hf2⟩ := Classical.skolem.1 key
            have kids : ∀ m, m ≤ len → KidsA w (fun _ => True) ((List.range m).map fun i => (f i).1) ((List.range m).flatMap fun i => [(f i).2.1, (f i).2.2.1, (f i).2.2.2.1, (f i).2.2.2.2]) := by
              intro m
              induction m with
              | zero => intro _; unfold KidsA; rfl
              | succ m ihm =>
                intro hml
                rw [List.range_succ, List.map_append, List.flatMap_append]
                have := KidsA.snoc (hf2 m (by omega)).2 _ _ (ihm (by omega))
                simpa using this
            refine ⟨_, _, ?_, kids len (Nat.le_refl _)⟩
            rw [List.length_map, List.length_range]
            rcases Nat.eq_zero_or_pos len with h0 | h0
            · subst h0
              exact .inl ⟨_, _, rfl, rfl, rfl⟩
            · have h1 := (hf2 0 h0).1.1
              rw [Nat.zero_mul, show a.add 0 = a from if_pos rfl] at h1
              obtain ⟨hb, ha⟩ := cell_addr h1
              generalize a.block = g at *
              generalize a.off = o at *
              subst ha
              refine .inr ⟨g, o, cap, rfl, trivial, hb, ?_⟩
              have hrow : ∀ m, m ≤ len → ∀ j u, ((List.range m).flatMap fun i => [(f i).2.1, (f i).2.2.1, (f i).2.2.2.1, (f i).2.2.2.2])[j]? = some u → w.cell? ⟨g, o + j, none⟩ = some u := by
                intro m
                induction m with
                | zero => intro _ j u hu; simp at hu
                | succ m ihm =>
                  intro hml j u hu
                  rw [List.range_succ, List.flatMap_append] at hu
                  have hlen2 : ((List.range m).flatMap fun i => [(f i).2.1, (f i).2.2.1, (f i).2.2.2.1, (f i).2.2.2.2]).length = m * 4 := by
                    have := (kids m (by omega)).length; simpa using this
                  rcases Nat.lt_or_ge j (m * 4) with hj | hj
                  · rw [List.getElem?_append_left (by omega)] at hu
                    exact ihm (by omega) j u hu
                  · rw [List.getElem?_append_right (by omega), hlen2] at hu
                    obtain ⟨x0, x1, x2, x3⟩ := (hf2 m (by omega)).1
                    rw [Addr.add_lit] at x0 x1 x2 x3
                    rw [Addr.add_lit] at x1 x2 x3
                    simp only [List.flatMap_cons, List.flatMap_nil, List.append_nil] at hu
                    obtain ⟨d, rfl⟩ : ∃ d, j = m * 4 + d := ⟨j - m * 4, by omega⟩
                    rw [Nat.add_sub_cancel_left] at hu
                    rw [← Nat.add_assoc]
                    match d, hu with
                    | 0, hu => cases hu; exact x0
                    | 1, hu => cases hu; exact x1
                    | 2, hu => cases hu; exact x2
                    | 3, hu => cases hu; exact x3
                    | d + 4, hu => simp at hu
              exact hrow len (Nat.le_refl _)
        refine ⟨.mk q s.data.toList ks ns, _, _, _, _, rfl, ?_⟩
        unfold NodeA
        refine ⟨c2, c3, cs2, ?_, hks, hr, hkd⟩
        rw [strOf_data]
set_option maxRecDepth 100000 in
/-- An argument that is a node. -/
theorem node_arg0 {r : Reach} {b0 : Nat} {v : Value} {d : DataW H} {p : List MemPlace} (hv : Value.okWide Try.prog w r b0 44 v) (h : DataW.Trod enc Try.prog w 0 (fun _ => true) true 44 v d p) :
    ∃ (n : Node) (a b c e : Value), v = .agg #[a, b, c, e] ∧ NodeA w (fun _ => True) n (.agg #[a, b, c, e]) := by
  obtain ⟨cs, rfl, hsz⟩ := okWide_struct Try.underlying44 hv
  obtain ⟨fuel, hf⟩ := h
  obtain ⟨n, a, b, c, e, hcs, hN⟩ := node_arg fuel _ _ hf
  refine ⟨n, a, b, c, e, ?_, hN⟩
  obtain ⟨l⟩ := cs
  simp [Value.cells] at hcs
  rw [hcs]
end
end Go.Proofs.Ytjnmcadfaombjaa
