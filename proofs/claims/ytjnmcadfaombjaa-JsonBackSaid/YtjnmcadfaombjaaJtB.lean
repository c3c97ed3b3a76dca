/- Walks: the program's json reader: digits, number (chapter 10). -/
import Derived.Test.YtjnmcadfaombjaaJtA
namespace Go.Proofs.Ytjnmcadfaombjaa
open Go.RowKit
set_option linter.unusedVariables false
set_option linter.unusedSimpArgs false
theorem Only.alloc {g : Nat} {a w : World} (h : Only g a w) (o : Obj) : Only g a (w.alloc o) :=
  ⟨h.os, h.tape, h.output, Nat.le_trans h.size (by simp), fun k hk hn => (Below.heap_alloc w o k (Nat.lt_of_lt_of_le hk h.size)).trans (h.block k hk hn)⟩
theorem Only.bel {g : Nat} {a w w' : World} (h : Only g a w) (hb : Below w.heap.size w w') : Only g a w' := h.trans (Only.of_below hb)
/-- A store into a block that is new. -/
theorem Only.far {g : Nat} {a w : World} (h : Only g a w) {p : Addr} (hp : a.heap.size ≤ p.block) (u : Value) : Only g a (w.setCell p u) :=
  ⟨h.os, h.tape, h.output, by simpa [World.setCell] using h.size, fun k hk hn => (Below.heap_setCell w p u k (by omega)).trans (h.block k hk hn)⟩
/-- Where a reader stands. -/
def atOf (w : World) (g : Nat) : Nat := match w.cell? ⟨g, 1, none⟩ with | some (.int _ q) => q.toNat | _ => 0
theorem Rdr.at_ {w : World} {g : Nat} {s : ByteArray} {k : Nat} (h : Rdr w g s k) : atOf w g = k := by
  unfold atOf; rw [h.c1]; simp
theorem sgn1 (s : ByteArray) (k : Nat) (c : UInt8) (hc : c.toNat ≠ 0) : (decide (k < s.size) && inL (⟨#[c]⟩ : ByteArray).data.toList (bt s.data.toList k)) = decide (bt s.data.toList k = c.toNat) := by
  have hl := sz_len s
  by_cases h : k < s.size
  · rw [decide_eq_true h, Bool.true_and]
    simp [inL, eq_comm]
  · rw [decide_eq_false h, Bool.false_and, bt_out (by omega)]
    rw [decide_eq_false (by omega)]
theorem sgn2 (s : ByteArray) (k : Nat) (c d : UInt8) (hc : c.toNat ≠ 0) (hd : d.toNat ≠ 0) : (decide (k < s.size) && inL (⟨#[c, d]⟩ : ByteArray).data.toList (bt s.data.toList k)) = decide (bt s.data.toList k = c.toNat ∨ bt s.data.toList k = d.toNat) := by
  have hl := sz_len s
  by_cases h : k < s.size
  · rw [decide_eq_true h, Bool.true_and]
    simp [inL, eq_comm]
  · rw [decide_eq_false h, Bool.false_and, bt_out (by omega)]
    rw [decide_eq_false (by omega)]
set_option maxHeartbeats 1000000 in
theorem jdigits (g k : Nat) (s : ByteArray) (w : World) (hR : Rdr w g s k) (hk : k ≤ 1000000) (hs : s.size ≤ 1000000) :
    Calls Try.prog 63 #[.pointer (some ⟨g, 0, none⟩)] w fun e w' => e = .returned (.int .i64 ((digE s.data.toList k : Int) - k)) ∧ Rdr w' g s (digE s.data.toList k) ∧ Only g w w' := by
  have hl := Lib.hid (sz_len s)
  have HP := Lib.hid (fun k w hR hk => jpeek g k s w hR hk hs)
  have c1 := hR.c1
  have hP0 := HP.out k w hR hk
  go_enter Try.func63, Try.ntmps63
  go_wp2_with fail
  refine hP0.mono ?_
  rintro e w2 ⟨rfl, b2⟩
  have hR2 := hR.bel b2
  have hO2 := (Only.of_below (g := g) b2)
  clear hP0 hR b2 c1
  go_wp2_with fail
  go_loopw [4] (fun z wr => ∃ j : Nat, z = .int .u8 (bt s.data.toList j) ∧ k ≤ j ∧ (j ≤ s.size ∨ j = k) ∧ digE s.data.toList k = digE s.data.toList j ∧ Rdr wr g s j ∧ Only g w wr) (fun z wr => s.size - atOf wr g)
  case atStart => exact ⟨k, rfl, Nat.le_refl _, .inr rfl, rfl, hR2, hO2⟩
  case round =>
    obtain ⟨j, rfl, hkj, hj, he, hR3, hO3⟩ := hrel
    have HE := Lib.hid he
    have HO := Lib.hid hO3
    have HR := Lib.hid hR3
    have c1 := hR3.c1
    have f1 := hR3.f1
    clear he hR2 hO2 hO3 hR3
    have y0 := bt_lt s.data.toList j
    by_cases hd : isDg (bt s.data.toList j)
    · have hlt : j < s.size := by
        rcases Nat.lt_or_ge j s.size with h | h
        · exact h
        · rw [bt_out (by rw [← hl.out]; exact h)] at hd; unfold isDg at hd; omega
      have HS : Hid (digE s.data.toList k = digE s.data.toList (j + 1)) := by show _ = _; rw [HE.out, digE_yes (by rw [← hl.out]; exact hlt) hd]
      unfold isDg at hd
      obtain ⟨h1, h2⟩ := hd
      have HP2 := Lib.hid (HP.out (j + 1) (wr.setCell ⟨g, 1, none⟩ (.int .i64 (j + 1 : Nat))) (HR.out.set (j + 1)) (by omega))
      generalize bt s.data.toList j = c at *
      clear hj
      go_wp2_with fail
      refine HP2.out.mono ?_
      rintro e w5 ⟨rfl, b5⟩
      go_wp2_with fail
      go_roundw
      case rel => exact ⟨j + 1, rfl, by omega, .inl (by omega), HS.out, (HR.out.set (j + 1)).bel b5, (HO.out.set 1 _).bel b5⟩
      case measure => rw [HR.out.at_, ((HR.out.set (j + 1)).bel b5).at_]; omega
    · have HS : Hid (digE s.data.toList k = j) := by show _ = _; rw [HE.out, digE_no hd]
      have h1 : bt s.data.toList j < 48 ∨ 58 ≤ bt s.data.toList j := by unfold isDg at hd; omega
      have hj2 : j ≤ 1000000 := by omega
      generalize bt s.data.toList j = c at *
      clear hj hd
      rcases h1 with h1 | h1
      all_goals
        go_wp2_with fail
        go_ret
        exact ⟨by rw [HS.out]; rfl, by rw [HS.out]; exact HR.out, HO.out⟩
end Go.Proofs.Ytjnmcadfaombjaa
