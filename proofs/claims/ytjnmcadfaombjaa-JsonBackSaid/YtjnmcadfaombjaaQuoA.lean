/- Walks: the number of four digits behind a \u (both layers); the document's four digits. -/
import Derived.Test.YtjnmcadfaombjaaOctC
import Derived.Test.YtjnmcadfaombjaaQuoP
namespace Go.Proofs.Ytjnmcadfaombjaa
open Go.RowKit
set_option linter.unusedVariables false
set_option linter.unusedSimpArgs false
def bsu : ByteArray := ⟨#[92, 117]⟩
theorem begins_two (l : List UInt8) (a b : UInt8) (k : Nat) (ha : a.toNat ≠ 0) (hb : b.toNat ≠ 0) : beginsL l [a, b] k = decide (bt l k = a.toNat ∧ bt l (k + 1) = b.toNat) := by
  have hu : ∀ x y : UInt8, x = y ↔ x.toNat = y.toNat := fun x y => ⟨fun h => by rw [h], fun h => UInt8.toNat_inj.1 h⟩
  rw [Bool.eq_iff_iff]
  unfold beginsL
  simp only [Bool.and_eq_true, decide_eq_true_eq, List.length_cons, List.length_nil]
  constructor
  · rintro ⟨h1, h2⟩
    have e0 := bt_drop l k 0
    have e1 := bt_drop l k 1
    rcases h : l.drop k with _ | ⟨x, _ | ⟨y, t⟩⟩
    · rw [h] at h2; simp at h2
    · rw [h] at h2; simp at h2
    · rw [h] at h2 e0 e1
      simp only [Nat.zero_add, Nat.reduceAdd, List.take_succ_cons, List.take_zero, List.cons.injEq, and_true] at h2
      rw [bt_c0] at e0
      rw [show (1 : Nat) = 0 + 1 from rfl, bt_cs, bt_c0] at e1
      rw [Nat.add_zero] at e0
      exact ⟨by rw [← e0, h2.1], by rw [← e1, h2.2]⟩
  · rintro ⟨h1, h2⟩
    have g1 := bt_pos_lt (l := l) (k := k) (by omega)
    have g2 := bt_pos_lt (l := l) (k := k + 1) (by omega)
    refine ⟨by omega, ?_⟩
    rw [List.drop_eq_getElem_cons g1, List.drop_eq_getElem_cons g2]
    simp only [Nat.zero_add, Nat.reduceAdd, List.take_succ_cons, List.take_zero, List.cons.injEq, and_true]
    exact ⟨(hu _ _).2 (by rw [bt_get g1, h1]), (hu _ _).2 (by rw [bt_get g2, h2])⟩
theorem begins_one (l : List UInt8) (a : UInt8) (k : Nat) (ha : a.toNat ≠ 0) : beginsL l [a] k = decide (bt l k = a.toNat) := by
  have hu : ∀ x y : UInt8, x = y ↔ x.toNat = y.toNat := fun x y => ⟨fun h => by rw [h], fun h => UInt8.toNat_inj.1 h⟩
  rw [Bool.eq_iff_iff]
  unfold beginsL
  simp only [Bool.and_eq_true, decide_eq_true_eq, List.length_cons, List.length_nil]
  constructor
  · rintro ⟨h1, h2⟩
    have e0 := bt_drop l k 0
    rcases h : l.drop k with _ | ⟨x, t⟩
    · rw [h] at h2; simp at h2
    · rw [h] at h2 e0
      simp only [Nat.zero_add, List.take_succ_cons, List.take_zero, List.cons.injEq, and_true] at h2
      rw [bt_c0, Nat.add_zero] at e0
      rw [← e0, h2]
  · intro h1
    have g1 := bt_pos_lt (l := l) (k := k) (by omega)
    refine ⟨by omega, ?_⟩
    rw [List.drop_eq_getElem_cons g1]
    simp only [Nat.zero_add, List.take_succ_cons, List.take_zero, List.cons.injEq, and_true]
    exact (hu _ _).2 (by rw [bt_get g1, h1])
theorem or_256 (a b : Nat) (ha : a < 256) (hb : b < 256) : bits .or .i32 ((a : Int) * 256) (b : Int) = (a : Int) * 256 + b := by
  have h := Nat.two_pow_add_eq_or_of_lt (i := 8) (b := b) (by simpa using hb) a
  have e : (2 : Nat) ^ 8 = 256 := rfl
  rw [e] at h
  have h2 := i32_or_nat (a * 256) b (by omega) (by omega)
  rw [show (a * 256 ||| b) = a * 256 + b by rw [Nat.mul_comm a 256]; exact h.symm] at h2
  rw [show ((a * 256 : Nat) : Int) = (a : Int) * 256 by omega, show ((a * 256 + b : Nat) : Int) = (a : Int) * 256 + b by omega] at h2
  exact h2
/-- The number that the program says of four digits. -/
def unitV (l : List UInt8) (k : Nat) : Nat := if bt l k = 92 ∧ bt l (k + 1) = 117 then 256 * (byteAt l (k + 2)).getD 0 + (byteAt l (k + 4)).getD 0 else 0
theorem byteV_parts (o : Option Nat) (h : ∀ v, o = some v → v < 256) : ∃ v b, byteV o = .tuple #[.int .u8 ((v : Nat) : Int), .bool b] ∧ v = o.getD 0 ∧ b = o.isSome ∧ v < 256 := by
  cases o with
  | none => exact ⟨0, false, rfl, rfl, rfl, by omega⟩
  | some v => exact ⟨v, true, rfl, rfl, rfl, h v rfl⟩
theorem unitV_some {l : List UInt8} {k v : Nat} (h : unitAt l k = some v) : unitV l k = v := by
  unfold unitAt at h
  unfold unitV
  split at h
  · rename_i h1
    rw [if_pos h1]
    split at h
    · rename_i a b ha hb
      rw [ha, hb]; cases h; rfl
    · cases h
  · cases h
theorem unitAt_isSome {l : List UInt8} {k : Nat} (h : bt l k = 92 ∧ bt l (k + 1) = 117) : (unitAt l k).isSome = ((byteAt l (k + 2)).isSome && (byteAt l (k + 4)).isSome) := by
  unfold unitAt
  rw [if_pos h]
  cases byteAt l (k + 2) <;> cases byteAt l (k + 4) <;> rfl
/-- What the document says of four digits. -/
def unitI (l : List UInt8) (k : Nat) : Int := match unitAt l k with | some v => v | none => -1
set_option maxHeartbeats 1000000 in
theorem runit_any (s : ByteArray) (k : Nat) (w : World) (hs : s.size ≤ 1000000) (hk : k ≤ 2000000) :
    Calls Try.prog 78 #[.string s, .int .i64 k] w fun e w' => e = .returned (.int .i64 (unitI s.data.toList k)) ∧ Below w.heap.size w w' := by
  have HB := Lib.hid (fun w => rbegins_any s bsu k w (by omega) (by decide))
  have hb : beginsL s.data.toList bsu.data.toList k = decide (bt s.data.toList k = 92 ∧ bt s.data.toList (k + 1) = 117) := begins_two _ 92 117 k (by decide) (by decide)
  rw [hb] at HB
  clear hb
  unfold bsu at HB
  by_cases h : bt s.data.toList k = 92 ∧ bt s.data.toList (k + 1) = 117
  · rw [decide_eq_true h] at HB
    obtain ⟨a, p, hv1, ha, hp, hal⟩ := byteV_parts (byteAt s.data.toList (k + 2)) (fun v h => byteAt_lt h)
    obtain ⟨b, q, hv2, hbb, hq, hbl⟩ := byteV_parts (byteAt s.data.toList (k + 4)) (fun v h => byteAt_lt h)
    have H1 := Lib.hid (fun w => rbyte_any s (k + 2) w (by omega))
    have H2 := Lib.hid (fun w => rbyte_any s (k + 4) w (by omega))
    rw [hv1] at H1
    rw [hv2] at H2
    have HV : Hid (unitI s.data.toList k = if p && q then 256 * (a : Int) + b else -1) := by
      show _ = _
      unfold unitI unitAt
      rw [if_pos h, ha, hbb, hp, hq]
      cases byteAt s.data.toList (k + 2) <;> cases byteAt s.data.toList (k + 4) <;> simp
    clear hv1 hv2 ha hbb hp hq h
    push_cast at H1 H2
    go_enter Try.func78, Try.ntmps78
    go_wp2_with fail
    refine (HB.out _).mono ?_
    rintro e w' ⟨rfl, rfl⟩
    go_wp2_with fail
    refine (H1.out _).mono ?_
    rintro e w' ⟨rfl, n1, rfl⟩
    go_wp2_with fail
    refine (H2.out _).mono ?_
    rintro e w' ⟨rfl, n2, rfl⟩
    cases p <;> cases q <;> go_wp2_with fail
    all_goals
      go_ret
      refine ⟨?_, below_drewN (Below.refl _ _) _⟩
      rw [HV.out]
      rfl
  · rw [decide_eq_false h] at HB
    have HV : Hid (unitI s.data.toList k = -1) := by
      show _ = _
      unfold unitI unitAt; rw [if_neg h]
    clear h
    go_enter Try.func78, Try.ntmps78
    go_wp2_with fail
    refine (HB.out _).mono ?_
    rintro e w' ⟨rfl, rfl⟩
    go_wp2_with fail
    go_ret
    refine ⟨?_, Below.refl _ _⟩
    rw [HV.out]
    rfl
theorem rfour_any (n : Nat) (w : World) (hn : n < 65536) :
    Calls Try.prog 72 #[.int .i64 n] w fun e w' => e = .returned (.string (strOf (pairL (n / 256) ++ pairL (n % 256)))) ∧ Below w.heap.size w w' := by
  have H1 := Lib.hid (fun w => rpair_any (n / 256) w (by omega))
  have H2 := Lib.hid (fun w => rpair_any (n % 256) w (by omega))
  rw [show ((n / 256 : Nat) : Int) = (n : Int) / 256 by omega] at H1
  rw [show ((n % 256 : Nat) : Int) = (n : Int) % 256 by omega] at H2
  have e0 : (n : Int) / 256 < 256 := by omega
  have e1 : 0 ≤ (n : Int) / 256 := by omega
  have HA := Lib.hid (strOf_append (pairL (n / 256)) (pairL (n % 256)))
  have l1 : (strOf (pairL (n / 256))).size = 2 := by rw [strOf_size]; rfl
  have l2 : (strOf (pairL (n % 256))).size = 2 := by rw [strOf_size]; rfl
  generalize strOf (pairL (n / 256)) = a at *
  generalize strOf (pairL (n % 256)) = b at *
  go_enter Try.func72, Try.ntmps72
  go_wp2_with fail
  refine (H1.out _).mono ?_
  rintro e w' ⟨rfl, n1, rfl⟩
  go_wp2_with fail
  refine (H2.out _).mono ?_
  rintro e w' ⟨rfl, n2, rfl⟩
  go_wp2_with fail
  go_ret
  exact ⟨by rw [← HA.out]; rfl, below_drewN (Below.refl _ _) _⟩
end Go.Proofs.Ytjnmcadfaombjaa
