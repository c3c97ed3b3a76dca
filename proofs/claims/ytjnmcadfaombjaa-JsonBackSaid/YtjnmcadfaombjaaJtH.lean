/- The program's json reader: what its takers hand back (chapter 10). -/
import Derived.Test.YtjnmcadfaombjaaJtB
import Derived.Test.YtjnmcadfaombjaaJsC
namespace Go.Proofs.Ytjnmcadfaombjaa
open Go.RowKit
set_option linter.unusedVariables false
set_option linter.unusedSimpArgs false
theorem Rdr.far {w : World} {g : Nat} {s : ByteArray} {k : Nat} (h : Rdr w g s k) {p : Addr} (hp : g ≠ p.block) (u : Value) : Rdr (w.setCell p u) g s k := Blk.far h hp u
/-- What one of the reader's takers hands back. -/
def TakR (o : Option Tok) (g : Nat) (s : ByteArray) (e : Ending) (w' : World) : Prop := match o with
  | some t => e = .returned (.tuple #[.agg (tokC t), .bool true]) ∧ Rdr w' g s t.to
  | none => ∃ (a : Int) (b : ByteArray) (c d : Int), e = .returned (.tuple #[.agg #[.int .u8 a, .string b, .int .i64 c, .int .i64 d], .bool false])
def numTok (l : List UInt8) (k : Nat) : Option Tok := match numE l k with
  | none => none
  | some e => some ⟨48, (l.drop k).take (e - k), k, e⟩
theorem jsign1 (g k : Nat) (s : ByteArray) (c : UInt8) (hc : c.toNat ≠ 0) (w : World) (hR : Rdr w g s k) (hk : k ≤ 1000000) (hs : s.size ≤ 1000000) :
    Calls Try.prog 62 #[.pointer (some ⟨g, 0, none⟩), .string ⟨#[c]⟩] w fun e w' => e = .returned (.bool (decide (bt s.data.toList k = c.toNat))) ∧ Rdr w' g s (if bt s.data.toList k = c.toNat then k + 1 else k) ∧ Only g w w' := by
  refine (jsign g k s ⟨#[c]⟩ w hR hk hs _ (sgn1 s k c hc)).mono ?_
  rintro e w' ⟨he, h1, h2⟩
  refine ⟨he, ?_, h2⟩
  by_cases h : bt s.data.toList k = c.toNat
  · rw [decide_eq_true h] at h1; rw [if_pos h]; exact h1
  · rw [decide_eq_false h] at h1; rw [if_neg h]; exact h1
theorem jsign2 (g k : Nat) (s : ByteArray) (c d : UInt8) (hc : c.toNat ≠ 0) (hd : d.toNat ≠ 0) (w : World) (hR : Rdr w g s k) (hk : k ≤ 1000000) (hs : s.size ≤ 1000000) :
    Calls Try.prog 62 #[.pointer (some ⟨g, 0, none⟩), .string ⟨#[c, d]⟩] w fun e w' => e = .returned (.bool (decide (bt s.data.toList k = c.toNat ∨ bt s.data.toList k = d.toNat))) ∧ Rdr w' g s (if bt s.data.toList k = c.toNat ∨ bt s.data.toList k = d.toNat then k + 1 else k) ∧ Only g w w' := by
  refine (jsign g k s ⟨#[c, d]⟩ w hR hk hs _ (sgn2 s k c d hc hd)).mono ?_
  rintro e w' ⟨he, h1, h2⟩
  refine ⟨he, ?_, h2⟩
  by_cases h : bt s.data.toList k = c.toNat ∨ bt s.data.toList k = d.toNat
  · rw [decide_eq_true h] at h1; rw [if_pos h]; exact h1
  · rw [decide_eq_false h] at h1; rw [if_neg h]; exact h1
theorem cut_str (s : ByteArray) (k e : Nat) : s.extract k e = strOf ((s.data.toList.drop k).take (e - k)) := by
  apply ByteArray.ext
  rw [ByteArray.data_extract]
  apply Array.ext'
  rw [Array.toList_extract]
  simp [strOf, List.extract_eq_take_drop]
end Go.Proofs.Ytjnmcadfaombjaa
