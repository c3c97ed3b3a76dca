/- Walks: the number of four digits behind a \u (both layers); the document's four digits. -/
import Derived.Test.YtmfldffbafamnaaOctC
import Derived.Test.YtmfldffbafamnaaQuoP
import Derived.Test.YtmfldffbafamnaaUtfI
import Derived.Laws.RangeString
namespace Go.Proofs.Ytmfldffbafamnaa
open Go.RowKit
set_option linter.unusedVariables false
set_option linter.unusedSimpArgs false
def bsu : ByteArray := ⟨#[92, 117]⟩
theorem begins_two (l : List UInt8) (a b : UInt8) (k : Nat) (ha : a.toNat ≠ 0) (hb : b.toNat ≠ 0) : beginsL l [a, b] k = decide (bt l k = a.toNat ∧ bt l (k + 1) = b.toNat) := by
  have hu : ∀ x y : UInt8, x = y ↔ x.toNat = y.toNat := fun x y => ⟨fun h => by rw [h], fun h => UInt8.toNat_inj.1 h⟩
  rw [Bool.eq_iff_iff]
  unfold beginsL
  simp only [Bool.and_eq_true, decide_eq_true_eq, List.length_cons, List.length_nil]
  constructor
  · rintro ⟨h1, h2⟩
    have e0 := bt_drop l k 0
    have e1 := bt_drop l k 1
    rcases h : l.drop k with _ | ⟨x, _ | ⟨y, t⟩⟩
    · rw [h] at h2; simp at h2
    · rw [h] at h2; simp at h2
    · rw [h] at h2 e0 e1
      simp only [Nat.zero_add, Nat.reduceAdd, List.take_succ_cons, List.take_zero, List.cons.injEq, and_true] at h2
      rw [bt_c0] at e0
      rw [show (1 : Nat) = 0 + 1 from rfl, bt_cs, bt_c0] at e1
      rw [Nat.add_zero] at e0
      exact ⟨by rw [← e0, h2.1], by rw [← e1, h2.2]⟩
  · rintro ⟨h1, h2⟩
    have g1 := bt_pos_lt (l := l) (k := k) (by omega)
    have g2 := bt_pos_lt (l := l) (k := k + 1) (by omega)
    refine ⟨by omega, ?_⟩
    rw [List.drop_eq_getElem_cons g1, List.drop_eq_getElem_cons g2]
    simp only [Nat.zero_add, Nat.reduceAdd, List.take_succ_cons, List.take_zero, List.cons.injEq, and_true]
    exact ⟨(hu _ _).2 (by rw [bt_get g1, h1]), (hu _ _).2 (by rw [bt_get g2, h2])⟩
theorem begins_one (l : List UInt8) (a : UInt8) (k : Nat) (ha : a.toNat ≠ 0) : beginsL l [a] k = decide (bt l k = a.toNat) := by
  have hu : ∀ x y : UInt8, x = y ↔ x.toNat = y.toNat := fun x y => ⟨fun h => by rw [h], fun h => UInt8.toNat_inj.1 h⟩
  rw [Bool.eq_iff_iff]
  unfold beginsL
  simp only [Bool.and_eq_true, decide_eq_true_eq, List.length_cons, List.length_nil]
  constructor
  · rintro ⟨h1, h2⟩
    have e0 := bt_drop l k 0
    rcases h : l.drop k with _ | ⟨x, t⟩
    · rw [h] at h2; simp at h2
    · rw [h] at h2 e0
      simp only [Nat.zero_add, List.take_succ_cons, List.take_zero, List.cons.injEq, and_true] at h2
      rw [bt_c0, Nat.add_zero] at e0
      rw [← e0, h2]
  · intro h1
    have g1 := bt_pos_lt (l := l) (k := k) (by omega)
    refine ⟨by omega, ?_⟩
    rw [List.drop_eq_getElem_cons g1]
    simp only [Nat.zero_add, List.take_succ_cons, List.take_zero, List.cons.injEq, and_true]
    exact (hu _ _).2 (by rw [bt_get g1, h1])
theorem or_256 (a b : Nat) (ha : a < 256) (hb : b < 256) : bits .or .i32 ((a : Int) * 256) (b : Int) = (a : Int) * 256 + b := by
  have h := Nat.two_pow_add_eq_or_of_lt (i := 8) (b := b) (by simpa using hb) a
  have e : (2 : Nat) ^ 8 = 256 := rfl
  rw [e] at h
  have h2 := i32_or_nat (a * 256) b (by omega) (by omega)
  rw [show (a * 256 ||| b) = a * 256 + b by rw [Nat.mul_comm a 256]; exact h.symm] at h2
  rw [show ((a * 256 : Nat) : Int) = (a : Int) * 256 by omega, show ((a * 256 + b : Nat) : Int) = (a : Int) * 256 + b by omega] at h2
  exact h2
/-- The number that the program says of four digits. -/
def unitV (l : List UInt8) (k : Nat) : Nat := if bt l k = 92 ∧ bt l (k + 1) = 117 then 256 * (byteAt l (k + 2)).getD 0 + (byteAt l (k + 4)).getD 0 else 0
theorem byteV_parts (o : Option Nat) (h : ∀ v, o = some v → v < 256) : ∃ v b, byteV o = .tuple #[.int .u8 ((v : Nat) : Int), .bool b] ∧ v = o.getD 0 ∧ b = o.isSome ∧ v < 256 := by
  cases o with
  | none => exact ⟨0, false, rfl, rfl, rfl, by omega⟩
  | some v => exact ⟨v, true, rfl, rfl, rfl, h v rfl⟩
theorem unitV_some {l : List UInt8} {k v : Nat} (h : unitAt l k = some v) : unitV l k = v := by
  unfold unitAt at h
  unfold unitV
  split at h
  · rename_i h1
    rw [if_pos h1]
    split at h
    · rename_i a b ha hb
      rw [ha, hb]; cases h; rfl
    · cases h
  · cases h
theorem unitAt_isSome {l : List UInt8} {k : Nat} (h : bt l k = 92 ∧ bt l (k + 1) = 117) : (unitAt l k).isSome = ((byteAt l (k + 2)).isSome && (byteAt l (k + 4)).isSome) := by
  unfold unitAt
  rw [if_pos h]
  cases byteAt l (k + 2) <;> cases byteAt l (k + 4) <;> rfl
/-- What the document says of four digits. -/
def unitI (l : List UInt8) (k : Nat) : Int := match unitAt l k with | some v => v | none => -1
set_option maxHeartbeats 1000000 in
theorem runit_any (s : ByteArray) (k : Nat) (w : World) (hs : s.size ≤ 1000000) (hk : k ≤ 2000000) :
    Calls Try.prog 68 #[.string s, .int .i64 k] w fun e w' => e = .returned (.int .i64 (unitI s.data.toList k)) ∧ Below w.heap.size w w' := by
  have HB := Lib.hid (fun w => rbegins_any s bsu k w (by omega) (by decide))
  have hb : beginsL s.data.toList bsu.data.toList k = decide (bt s.data.toList k = 92 ∧ bt s.data.toList (k + 1) = 117) := begins_two _ 92 117 k (by decide) (by decide)
  rw [hb] at HB
  clear hb
  unfold bsu at HB
  by_cases h : bt s.data.toList k = 92 ∧ bt s.data.toList (k + 1) = 117
  · rw [decide_eq_true h] at HB
    obtain ⟨a, p, hv1, ha, hp, hal⟩ := byteV_parts (byteAt s.data.toList (k + 2)) (fun v h => byteAt_lt h)
    obtain ⟨b, q, hv2, hbb, hq, hbl⟩ := byteV_parts (byteAt s.data.toList (k + 4)) (fun v h => byteAt_lt h)
    have H1 := Lib.hid (fun w => rbyte_any s (k + 2) w (by omega))
    have H2 := Lib.hid (fun w => rbyte_any s (k + 4) w (by omega))
    rw [hv1] at H1
    rw [hv2] at H2
    have HV : Hid (unitI s.data.toList k = if p && q then 256 * (a : Int) + b else -1) := by
      show _ = _
      unfold unitI unitAt
      rw [if_pos h, ha, hbb, hp, hq]
      cases byteAt s.data.toList (k + 2) <;> cases byteAt s.data.toList (k + 4) <;> simp
    clear hv1 hv2 ha hbb hp hq h
    push_cast at H1 H2
    go_enter Try.func68, Try.ntmps68
    go_wp2_with fail
    refine (HB.out _).mono ?_
    rintro e w' ⟨rfl, rfl⟩
    go_wp2_with fail
    refine (H1.out _).mono ?_
    rintro e w' ⟨rfl, n1, rfl⟩
    go_wp2_with fail
    refine (H2.out _).mono ?_
    rintro e w' ⟨rfl, n2, rfl⟩
    cases p <;> cases q <;> go_wp2_with fail
    all_goals
      go_ret
      refine ⟨?_, below_drewN (Below.refl _ _) _⟩
      rw [HV.out]
      rfl
  · rw [decide_eq_false h] at HB
    have HV : Hid (unitI s.data.toList k = -1) := by
      show _ = _
      unfold unitI unitAt; rw [if_neg h]
    clear h
    go_enter Try.func68, Try.ntmps68
    go_wp2_with fail
    refine (HB.out _).mono ?_
    rintro e w' ⟨rfl, rfl⟩
    go_wp2_with fail
    go_ret
    refine ⟨?_, Below.refl _ _⟩
    rw [HV.out]
    rfl
theorem rfour_any (n : Nat) (w : World) (hn : n < 65536) :
    Calls Try.prog 49 #[.int .i64 n] w fun e w' => e = .returned (.string (strOf (pairL (n / 256) ++ pairL (n % 256)))) ∧ Below w.heap.size w w' := by
  have H1 := Lib.hid (fun w => rpair_any (n / 256) w (by omega))
  have H2 := Lib.hid (fun w => rpair_any (n % 256) w (by omega))
  rw [show ((n / 256 : Nat) : Int) = (n : Int) / 256 by omega] at H1
  rw [show ((n % 256 : Nat) : Int) = (n : Int) % 256 by omega] at H2
  have e0 : (n : Int) / 256 < 256 := by omega
  have e1 : 0 ≤ (n : Int) / 256 := by omega
  have HA := Lib.hid (strOf_append (pairL (n / 256)) (pairL (n % 256)))
  have l1 : (strOf (pairL (n / 256))).size = 2 := by rw [strOf_size]; rfl
  have l2 : (strOf (pairL (n % 256))).size = 2 := by rw [strOf_size]; rfl
  generalize strOf (pairL (n / 256)) = a at *
  generalize strOf (pairL (n % 256)) = b at *
  go_enter Try.func49, Try.ntmps49
  go_wp2_with fail
  refine (H1.out _).mono ?_
  rintro e w' ⟨rfl, n1, rfl⟩
  go_wp2_with fail
  refine (H2.out _).mono ?_
  rintro e w' ⟨rfl, n2, rfl⟩
  go_wp2_with fail
  go_ret
  exact ⟨by rw [← HA.out]; rfl, below_drewN (Below.refl _ _) _⟩
end Go.Proofs.Ytmfldffbafamnaa

/- Walks: the document's rune as it is written. -/
namespace Go.Proofs.Ytmfldffbafamnaa
open Go.RowKit
set_option linter.unusedVariables false
set_option linter.unusedSimpArgs false
def shortC : Array Value := #[.int .i64 34, .int .i64 92, .int .i64 8, .int .i64 12, .int .i64 10, .int .i64 13, .int .i64 9]
def shortS : ByteArray := ⟨#[34, 92, 98, 102, 110, 114, 116]⟩
def tR (k : Nat) : Nat := [34, 92, 8, 12, 10, 13, 9].getD k 0
def tL (k : Nat) : Nat := [34, 92, 98, 102, 110, 114, 116].getD k 0
theorem rshort_any (w : World) :
    Calls Try.prog 48 #[] w fun e w' => e = .returned (.tuple #[.slice (some ⟨w.heap.size, 0, none⟩) 7 7, .string shortS]) ∧ w.alloc (.cells shortC 3) = w' := by
  unfold shortC shortS
  go_enter Try.func48, Try.ntmps48
  go_wp2
  go_ret2
  exact ⟨rfl, rfl⟩
theorem seven {k : Nat} (h : k < 7) : k = 0 ∨ k = 1 ∨ k = 2 ∨ k = 3 ∨ k = 4 ∨ k = 5 ∨ k = 6 := by omega
theorem short_cell {w : World} {g k : Nat} (h : Blk w g 3 shortC) (hk : k < 7) : w.cell? ⟨g, k, none⟩ = some (.int .i64 ((tR k : Nat) : Int)) := by
  rw [h.cell]
  rcases seven hk with rfl | rfl | rfl | rfl | rfl | rfl | rfl <;> rfl
theorem short_hit {n k : Nat} (hk : k < 7) (h : tR k = n) : letN n = tL k ∧ letN n ≠ 0 := by
  subst h
  rcases seven hk with rfl | rfl | rfl | rfl | rfl | rfl | rfl <;> decide
theorem short_none {n : Nat} (h : ∀ k, k < 7 → tR k ≠ n) : letN n = 0 := by
  have h0 : 34 ≠ n := h 0 (by omega)
  have h1 : 92 ≠ n := h 1 (by omega)
  have h2 : 8 ≠ n := h 2 (by omega)
  have h3 : 12 ≠ n := h 3 (by omega)
  have h4 : 10 ≠ n := h 4 (by omega)
  have h5 : 13 ≠ n := h 5 (by omega)
  have h6 : 9 ≠ n := h 6 (by omega)
  unfold letN
  rw [if_neg (by omega), if_neg (by omega), if_neg (by omega), if_neg (by omega), if_neg (by omega), if_neg (by omega)]
theorem short_letter {k : Nat} (hk : k < 7) : shortS.extract k (k + 1) = strOf [UInt8.ofNat (tL k)] := by
  rw [ext_one _ _ (by show k < 7; exact hk)]
  congr 1
  rcases seven hk with rfl | rfl | rfl | rfl | rfl | rfl | rfl <;> rfl
theorem bs_letter {k : Nat} (hk : k < 7) : ({ data := #[92] } : ByteArray) ++ shortS.extract k (k + 1) = strOf [92, UInt8.ofNat (tL k)] := by
  rw [short_letter hk]
  exact strOf_append [92] [UInt8.ofNat (tL k)]
set_option maxRecDepth 100000 in
set_option maxHeartbeats 2000000 in
theorem rwritten_any (n : Nat) (w : World) (hn : n ≤ 1114111) :
    Calls Try.prog 32 #[.int .i64 n] w fun e w' => e = .returned (.string (strOf (wrJ n))) ∧ Below w.heap.size w w' := by
  have HS := Lib.hid (rshort_any w)
  have HB := Lib.hid (fun w => rbytes_any n w)
  have HF := Lib.hid (fun w (h : n < 65536) => rfour_any n w h)
  have HL := Lib.hid (strOf_append [92, 117] (pairL (n / 256) ++ pairL (n % 256)))
  have hlen : (strOf (pairL (n / 256) ++ pairL (n % 256))).size = 4 := by rw [strOf_size]; rfl
  generalize hZ : strOf (pairL (n / 256) ++ pairL (n % 256)) = z at *
  clear hZ
  go_enter Try.func32, Try.ntmps32
  go_wp2_with fail
  refine HS.out.mono ?_
  rintro e w1 ⟨rfl, hw1⟩
  have hk1 : Blk w1 w.heap.size 3 shortC := by rw [← hw1]; exact Blk.new w _ _
  have hb1 : Below w.heap.size w w1 := by rw [← hw1]; exact (Below.refl _ _).alloc (Nat.le_refl _) _
  clear hw1
  have HK := Lib.hid hk1
  clear hk1
  unfold shortS
  go_wp2_with fail
  go_loop [5] (fun i => ∃ k : Nat, k ≤ 7 ∧ i = .int .i64 k ∧ ∀ j, j < k → tR j ≠ n) (fun i => 7 - (intOf i).toNat)
  case atStart => exact ⟨0, by omega, rfl, fun j h => by omega⟩
  case round =>
    obtain ⟨k, hk, rfl, hno⟩ := hrel
    have HN := Lib.hid hno
    clear hno
    by_cases hlt : k < 7
    · have hc := short_cell HK.out hlt
      by_cases ht : tR k = n
      · have hh := Lib.hid (short_hit hlt ht)
        have hl := bs_letter hlt
        unfold shortS at hl
        have hq : (((tR k : Nat) : Int) == (n : Int)) = true := by rw [ht]; simp
        have hsz : (({ data := #[92] } : ByteArray) ++ (({ data := #[34, 92, 98, 102, 110, 114, 116] } : ByteArray).extract k (k + 1))).size = 2 := by rw [hl, strOf_size]; rfl
        clear ht
        go_wp2_with fail
        go_ret
        exact ⟨by rw [wrJ_short hh.out.2, hh.out.1]; rfl, hb1⟩
      · have hq : (((tR k : Nat) : Int) == (n : Int)) = false := by simp; omega
        have HT := Lib.hid ht
        clear ht
        go_wp2_with fail
        go_round
        case rel => exact ⟨k + 1, by omega, by go_num, fun j hj => by rcases Nat.lt_succ_iff_lt_or_eq.1 hj with h | rfl; exact HN.out j h; exact HT.out⟩
        case measure => simp [intOf]; omega
    · obtain rfl : k = 7 := by omega
      have HZ := Lib.hid (short_none HN.out)
      by_cases hl : longN n
      · have HW := Lib.hid (wrJ_long HZ.out hl)
        have HF2 := Lib.hid (fun w => HF.out w (by have := longN_lt hl; omega))
        have HL2 : Hid (strOf (wrJ n) = ({ data := #[92, 117] } : ByteArray) ++ z) := by show _ = _; rw [HW.out]; exact HL.out.symm
        clear HF HL HW
        unfold longN at hl
        have hl2 : (n < 32) ∨ (n = 38) ∨ (n = 60) ∨ (n = 62) ∨ (127 ≤ n ∧ n ≤ 159) ∨ n = 8232 ∨ n = 8233 := hl
        clear hl
        rcases hl2 with h | h | h | h | ⟨h, h'⟩ | h | h
        all_goals
          try subst h
          try have g1 : ((n : Int) == 38) = false := by simp; omega
          try have g2 : ((n : Int) == 60) = false := by simp; omega
          try have g3 : ((n : Int) == 62) = false := by simp; omega
          go_wp2_with (go_at_call 49; refine (HF2.out _).mono ?_; rintro e w2 ⟨rfl, b2⟩)
          go_ret
          exact ⟨by rw [HL2.out]; rfl, hb1.trans (b2.mono hb1.size)⟩
      · have HW := Lib.hid (wrJ_self HZ.out hl)
        unfold longN at hl
        have g0 : 32 ≤ n := by omega
        have g1 : ((n : Int) == 38) = false := by simp; omega
        have g2 : ((n : Int) == 60) = false := by simp; omega
        have g3 : ((n : Int) == 62) = false := by simp; omega
        have g4 : ((n : Int) == 8232) = false := by simp; omega
        have g5 : ((n : Int) == 8233) = false := by simp; omega
        have g6 : n < 127 ∨ 159 < n := by omega
        clear hl
        rcases g6 with g6 | g6
        all_goals
          go_wp2_with (go_at_call 35; refine (HB.out _).mono ?_; rintro e w2 ⟨rfl, b2⟩)
          go_ret
          exact ⟨by rw [HW.out]; rfl, hb1.trans (b2.mono hb1.size)⟩
end Go.Proofs.Ytmfldffbafamnaa

/- Walks: the program's letter, how, escape, One. -/
namespace Go.Proofs.Ytmfldffbafamnaa
open Go.RowKit
set_option linter.unusedVariables false
set_option linter.unusedSimpArgs false
def howN (n : Nat) : Nat := if letN n ≠ 0 then 1 else if longN n then 2 else 0
def oneV (o : Option (Nat × Nat)) : Value := match o with | some p => .tuple #[.int .i32 p.1, .int .i64 p.2, .bool true] | none => .tuple #[.int .i32 0, .int .i64 0, .bool false]
theorem tL_letR {k : Nat} (h : k < 7) : letR (tL k) = tR k ∧ tR k ≠ 0 ∧ letN (tR k) = tL k ∧ tR k ≤ 92 := by
  rcases seven h with rfl | rfl | rfl | rfl | rfl | rfl | rfl <;> decide
theorem letR_none {c : Nat} (h47 : c ≠ 47) (h : ∀ k, k < 7 → tL k ≠ c) : letR c = 0 := by
  have h0 : 34 ≠ c := h 0 (by omega)
  have h1 : 92 ≠ c := h 1 (by omega)
  have h2 : 98 ≠ c := h 2 (by omega)
  have h3 : 102 ≠ c := h 3 (by omega)
  have h4 : 110 ≠ c := h 4 (by omega)
  have h5 : 114 ≠ c := h 5 (by omega)
  have h6 : 116 ≠ c := h 6 (by omega)
  unfold letR
  rw [if_neg (by omega), if_neg (by omega), if_neg (by omega), if_neg (by omega), if_neg (by omega), if_neg (by omega)]
def shortR : ByteArray := ⟨#[34, 92, 8, 12, 10, 13, 9]⟩
theorem next_short (w : World) (k : Nat) (hk : k < 7) (ty : TypeId) :
    (Instr.next (.pointer (some ⟨w.heap.size, 0, none⟩)) true ty).run Try.prog (w.iter shortR k) = .ok (.tuple #[.bool true, .int .i64 k, .int .i32 (tR k)]) (w.iter shortR (k + 1)) := by
  have hs : k < shortR.size := hk
  have e : (shortR[k]'hs).toNat = tR k := by rcases seven hk with rfl | rfl | rfl | rfl | rfl | rfl | rfl <;> rfl
  have := run_next_ascii (P := Try.prog) w shortR k ty hs (by rw [e]; have := (tL_letR hk).2.2.2; omega)
  rw [e] at this
  exact this
theorem next_short_end (w : World) (ty : TypeId) :
    (Instr.next (.pointer (some ⟨w.heap.size, 0, none⟩)) true ty).run Try.prog (w.iter shortR 7) = .ok (.tuple #[.bool false]) (w.iter shortR 7) :=
  run_next_end (P := Try.prog) w shortR 7 ty (by decide)
theorem escJ_letter {l : List UInt8} {k r : Nat} (h : letR (bt l (k + 1)) = r) (hr : r ≠ 0) : escJ (l.drop k) = some (r, 2) := by
  unfold escJ
  rw [bt_drop, h, if_pos hr]
theorem escJ_unit {l : List UInt8} {k : Nat} (h : letR (bt l (k + 1)) = 0) : escJ (l.drop k) = match unitAt l k with
    | none => none
    | some a => if 56320 ≤ a ∧ a < 57344 then none else if 55296 ≤ a ∧ a < 56320 then
        match unitAt l (k + 6) with
        | none => none
        | some b => if 56320 ≤ b ∧ b < 57344 then some (65536 + (a - 55296) * 1024 + (b - 56320), 12) else none
      else some (a, 6) := by
  unfold escJ
  rw [bt_drop, h, if_neg (by simp), unitAt_drop, unitAt_drop, Nat.add_zero]
  rfl
theorem unitV_lt (l : List UInt8) (k : Nat) : unitV l k < 65536 := by
  unfold unitV
  split
  · have h1 : (byteAt l (k + 2)).getD 0 < 256 := by
      cases h : byteAt l (k + 2) with
      | none => simp
      | some v => exact byteAt_lt h
    have h2 : (byteAt l (k + 4)).getD 0 < 256 := by
      cases h : byteAt l (k + 4) with
      | none => simp
      | some v => exact byteAt_lt h
    omega
  · omega
theorem iter_drewN (w : World) (n : Nat) (s : ByteArray) (k : Nat) : (w.iter s k).drewN n = (w.drewN n).iter s k := rfl
theorem below_iter (w : World) (n : Nat) (s : ByteArray) (k : Nat) : Below w.heap.size w ((w.drewN n).iter s k) :=
  (below_drewN (Below.refl w.heap.size w) n).alloc (Nat.le_refl _) _
end Go.Proofs.Ytmfldffbafamnaa
