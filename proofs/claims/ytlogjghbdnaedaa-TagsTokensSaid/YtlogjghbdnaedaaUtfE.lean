/- Walks: the reference's Next. -/
import Derived.Test.YtlogjghbdnaedaaUtfD
import Derived.Test.YtlogjghbdnaedaaUtfR
import Derived.Deep.RegionWith
namespace Go.Proofs.Ytlogjghbdnaedaa
open Go.RowKit
set_option linter.unusedVariables false
set_option linter.unusedSimpArgs false
def rnextV (p : Nat × Nat) : Value := .tuple #[.int .i64 p.1, .int .i64 p.2]
def leads : Array Value := #[.int .i64 0, .int .i64 0, .int .i64 192, .int .i64 224, .int .i64 240]
def NoTest (l : List UInt8) (m j : Nat) : Prop := ∀ i, 1 ≤ i → i < j → i ≤ m → ¬ rtest l i
theorem NoTest.step {l : List UInt8} {m j : Nat} (h : NoTest l m j) (hn : ¬ rtest l j) : NoTest l m (j + 1) := fun i h1 h2 h3 => by
  by_cases e : i = j
  · subst e; exact hn
  · exact h i h1 (by omega) h3
theorem beq_str (a b : ByteArray) : ((a.toList == b.toList) = true) ↔ a.data.toList = b.data.toList := by
  rw [beq_iff_eq, ByteArray.toList_eq, ByteArray.toList_eq]
theorem ext_take (s : ByteArray) (k j : Nat) (h : k + j ≤ s.size) : (s.extract k (k + j)).data.toList = (s.data.toList.drop k).take j := by
  have : (s.extract k (k + j)).data.toList = (s.data.extract k (k + j)).toList := by rw [ByteArray.data_extract]
  rw [this]
  simp [Array.toList_extract, List.extract_eq_take_drop]
theorem rtest_str {s : ByteArray} {k j : Nat} {v : Int} (hkj : k + j ≤ s.size) (hv : rv (s.data.toList.drop k) j = v) (h0 : 0 ≤ v) (hr : isRune v) :
    (((strOf (enc v)).toList == (s.extract k (k + j)).toList) = true) ↔ rtest (s.data.toList.drop k) j := by
  subst hv
  rw [beq_str, strOf_list, ext_take _ _ _ hkj]
  exact ⟨fun h => ⟨h0, hr, h⟩, fun h => h.2.2⟩
theorem rnext_ok {s : ByteArray} {k j : Nat} {v : Int} (hkj : k + j ≤ s.size) (h1 : 1 ≤ j) (h4 : j ≤ 4) (hv : rv (s.data.toList.drop k) j = v) (h0 : 0 ≤ v) (hr : isRune v)
    (he : ((strOf (enc v)).toList == (s.extract k (k + j)).toList) = true) {J : Int} (hJ : J = j) : Ending.returned (.tuple #[.int .i64 v, .int .i64 J]) = .returned (rnextV (next (s.data.toList.drop k))) := by
  have ht := (rtest_str hkj hv h0 hr).1 he
  rw [rtest_next (by rw [List.length_drop, ← sz_len]; omega) h1 h4 ht, hv, hJ]
  unfold rnextV
  rw [Int.toNat_of_nonneg h0]
theorem rnext_no {s : ByteArray} {k j m : Nat} {v : Int} (hno : NoTest (s.data.toList.drop k) m j) (hkj : k + j ≤ s.size) (hv : rv (s.data.toList.drop k) j = v) (h0 : 0 ≤ v) (hr : isRune v)
    (he : ((strOf (enc v)).toList == (s.extract k (k + j)).toList) = false) : NoTest (s.data.toList.drop k) m (j + 1) :=
  hno.step fun ht => by rw [(rtest_str hkj hv h0 hr).2 ht] at he; cases he
theorem rnext_neg {l : List UInt8} {j m : Nat} {v : Int} (hno : NoTest l m j) (hv : rv l j = v) (h : ¬ (0 ≤ v ∧ isRune v)) : NoTest l m (j + 1) :=
  hno.step fun ht => h ⟨by rw [← hv]; exact ht.1, by rw [← hv]; exact ht.2.1⟩
theorem bt_at (s : ByteArray) (k i : Nat) (h : k + i < s.size) : (s[k + i]).toNat = bt (s.data.toList.drop k) i := by rw [bt_byte s (k + i) h, bt_drop]
theorem bt_at0 (s : ByteArray) (k : Nat) (h : k < s.size) : (s[k]).toNat = bt (s.data.toList.drop k) 0 := by rw [bt_byte s k h, bt_drop, Nat.add_zero]
set_option maxRecDepth 100000 in
set_option maxHeartbeats 4000000 in
theorem rnext_in (s : ByteArray) (k : Nat) (w : World) (hs : s.size ≤ 9223372036854775807) (hk : k < s.size) :
    Calls Try.prog 27 #[.string s, .int .i64 k] w fun e w' => e = .returned (rnextV (next (s.data.toList.drop k))) ∧ Below w.heap.size w w' := by
  have g0 : decide ((k : Int) < 0) = false := by simp
  have g1 : decide (s.size ≤ k) = false := by simp; omega
  go_enter Try.func27, Try.ntmps27
  go_wp2_with fail
  obtain ⟨B, hB⟩ : ∃ B, B = w.heap.size := ⟨_, rfl⟩
  have hL : Blk (w.alloc (.cells leads 3)) B 3 leads := by rw [hB]; exact Blk.new _ _ _
  have hb0 : Below B w (w.alloc (.cells leads 3)) := by rw [hB]; exact (Below.refl _ _).alloc (Nat.le_refl _) _
  rw [← hB]
  have HB := Lib.hid hB
  clear hB
  unfold leads at hL hb0
  generalize w.alloc _ = w1 at *
  go_loopw [7] (fun z wr => ∃ (J : Int) (j : Nat), z = .int .i64 J ∧ J = j ∧ 1 ≤ j ∧ j ≤ 5 ∧ NoTest (s.data.toList.drop k) (s.size - k) j ∧ Blk wr B 3 leads ∧ Below B w wr) (fun z _ => 5 - (intOf z).toNat)
  case atStart => exact ⟨1, 1, rfl, rfl, by omega, by omega, fun i h1 h2 => by omega, hL, hb0⟩
  case round =>
    obtain ⟨J, j, rfl, hJ, hj1, hj5, hno, hl, hb⟩ := hrel
    clear hL hb0
    have d0 := hl.cell 0
    have d1 := hl.cell 1
    have d2 := hl.cell 2
    have d3 := hl.cell 3
    have d4 := hl.cell 4
    simp only [leads] at d0 d1 d2 d3 d4
    by_cases hc : j ≤ 4 ∧ j ≤ s.size - k
    · obtain ⟨c1, c2⟩ := hc
      have hj : j = 1 ∨ j = 2 ∨ j = 3 ∨ j = 4 := by omega
      rcases hj with rfl | rfl | rfl | rfl
      · obtain rfl : J = 1 := by omega
        have hkj : k + 1 ≤ s.size := by omega
        have hk0 : (0 : Int) ≤ k := by omega
        have hkn : (0 : Int) ≤ (k : Int) + 1 := by omega
        have hkk : (k : Int) ≤ (k : Int) + 1 := by omega
        have hkm : (k : Int) + 1 ≤ s.size := by omega
        have hkw : IntKind.i64.wrap ((k : Int) + 1) = (k : Int) + 1 := IntWalk.i64_in _ (by omega)
        have y0 := bt_lt (s.data.toList.drop k) 0
        have x0 := bt_at0 s k hk
        have HV := Lib.hid (rv_1 (s.data.toList.drop k))
        generalize bt (s.data.toList.drop k) 0 = b0 at *
        have HK := Lib.hid hkj
        clear hJ hj1 hj5 c1 c2 hkj
        go_wp2_with fail
        go_quiet (fail)
        clear hkw
        go_wp2_with fail
        go_rounds 1
        have hkw : IntKind.i64.wrap ((k : Int) + 1) = (k : Int) + 1 := IntWalk.i64_in _ (by omega)
        generalize (b0 : Int) = v at *
        by_cases v0 : 0 ≤ v
        · by_cases vr : isRune v
          · have HR := Lib.hid (fun w => rune_to v true w (decide_eq_true vr))
            have VR := Lib.hid vr
            clear vr
            go_region_held3 (fun _ => True) (trivial) (first | (go_at_call 45; refine (HR.out _).mono ?_; rintro e w' ⟨rfl, rfl⟩) | (go_at_call 46; refine (rbytes_any v _).mono ?_; rintro e w2 ⟨rfl, b2⟩))
            have hb2 : Below B w w2 := (below_drewN hb _).drew.trans (b2.mono (by have := Blk.lt hl; exact Nat.le_of_lt this))
            have hl2 : Blk w2 B 3 leads := Blk.below (hl.drewN nq).drew b2 (Blk.lt hl)
            go_wp2_with fail
            · go_ret2
              exact ⟨rnext_ok HK.out (by omega) (by omega) HV.out v0 VR.out (by assumption) rfl, by rw [← HB.out]; exact hb2⟩
            · go_roundw
              case rel => exact ⟨2, 2, by go_num, rfl, by omega, by omega, rnext_no hno HK.out HV.out v0 VR.out (by assumption), hl2, hb2⟩
              case measure => simp [intOf]
          · have HR := Lib.hid (fun w => rune_to v false w (decide_eq_false vr))
            have VR := Lib.hid vr
            clear vr
            go_quiet ((go_at_call 45; exact quiet_add_left (HR.out _)))
            go_wp2_with fail
            go_roundw
            case rel => exact ⟨2, 2, by go_num, rfl, by omega, by omega, rnext_neg hno HV.out (fun h => VR.out h.2), hl.drewN _, below_drewN hb _⟩
            case measure => simp [intOf]
        · go_quiet (fail)
          go_wp2_with fail
          go_roundw
          case rel => exact ⟨2, 2, by go_num, rfl, by omega, by omega, rnext_neg hno HV.out (fun h => v0 h.1), hl.drewN _, below_drewN hb _⟩
          case measure => simp [intOf]
      · obtain rfl : J = 2 := by omega
        have hkj : k + 2 ≤ s.size := by omega
        have hk0 : (0 : Int) ≤ k := by omega
        have hkn : (0 : Int) ≤ (k : Int) + 2 := by omega
        have hkk : (k : Int) ≤ (k : Int) + 2 := by omega
        have hkm : (k : Int) + 2 ≤ s.size := by omega
        have hkw : IntKind.i64.wrap ((k : Int) + 2) = (k : Int) + 2 := IntWalk.i64_in _ (by omega)
        have y0 := bt_lt (s.data.toList.drop k) 0
        have x0 := bt_at0 s k hk
        have y1 := bt_lt (s.data.toList.drop k) 1
        have hk1 : k + 1 < s.size := by omega
        have x1 := bt_at s k 1 hk1
        have HV := Lib.hid (rv_2 (s.data.toList.drop k))
        generalize bt (s.data.toList.drop k) 0 = b0 at *
        generalize bt (s.data.toList.drop k) 1 = b1 at *
        have HK := Lib.hid hkj
        clear hJ hj1 hj5 c1 c2 hkj
        go_wp2_with fail
        go_quiet (fail)
        clear hkw
        go_wp2_with fail
        go_rounds 2
        have hkw : IntKind.i64.wrap ((k : Int) + 2) = (k : Int) + 2 := IntWalk.i64_in _ (by omega)
        generalize 64 * ((b0 : Int) - 192) + b1 - 128 = v at *
        by_cases v0 : 0 ≤ v
        · by_cases vr : isRune v
          · have HR := Lib.hid (fun w => rune_to v true w (decide_eq_true vr))
            have VR := Lib.hid vr
            clear vr
            go_region_held3 (fun _ => True) (trivial) (first | (go_at_call 45; refine (HR.out _).mono ?_; rintro e w' ⟨rfl, rfl⟩) | (go_at_call 46; refine (rbytes_any v _).mono ?_; rintro e w2 ⟨rfl, b2⟩))
            have hb2 : Below B w w2 := (below_drewN hb _).drew.trans (b2.mono (by have := Blk.lt hl; exact Nat.le_of_lt this))
            have hl2 : Blk w2 B 3 leads := Blk.below (hl.drewN nq).drew b2 (Blk.lt hl)
            go_wp2_with fail
            · go_ret2
              exact ⟨rnext_ok HK.out (by omega) (by omega) HV.out v0 VR.out (by assumption) rfl, by rw [← HB.out]; exact hb2⟩
            · go_roundw
              case rel => exact ⟨3, 3, by go_num, rfl, by omega, by omega, rnext_no hno HK.out HV.out v0 VR.out (by assumption), hl2, hb2⟩
              case measure => simp [intOf]
          · have HR := Lib.hid (fun w => rune_to v false w (decide_eq_false vr))
            have VR := Lib.hid vr
            clear vr
            go_quiet ((go_at_call 45; exact quiet_add_left (HR.out _)))
            go_wp2_with fail
            go_roundw
            case rel => exact ⟨3, 3, by go_num, rfl, by omega, by omega, rnext_neg hno HV.out (fun h => VR.out h.2), hl.drewN _, below_drewN hb _⟩
            case measure => simp [intOf]
        · go_quiet (fail)
          go_wp2_with fail
          go_roundw
          case rel => exact ⟨3, 3, by go_num, rfl, by omega, by omega, rnext_neg hno HV.out (fun h => v0 h.1), hl.drewN _, below_drewN hb _⟩
          case measure => simp [intOf]
      · obtain rfl : J = 3 := by omega
        have hkj : k + 3 ≤ s.size := by omega
        have hk0 : (0 : Int) ≤ k := by omega
        have hkn : (0 : Int) ≤ (k : Int) + 3 := by omega
        have hkk : (k : Int) ≤ (k : Int) + 3 := by omega
        have hkm : (k : Int) + 3 ≤ s.size := by omega
        have hkw : IntKind.i64.wrap ((k : Int) + 3) = (k : Int) + 3 := IntWalk.i64_in _ (by omega)
        have y0 := bt_lt (s.data.toList.drop k) 0
        have x0 := bt_at0 s k hk
        have y1 := bt_lt (s.data.toList.drop k) 1
        have hk1 : k + 1 < s.size := by omega
        have x1 := bt_at s k 1 hk1
        have y2 := bt_lt (s.data.toList.drop k) 2
        have hk2 : k + 2 < s.size := by omega
        have x2 := bt_at s k 2 hk2
        have HV := Lib.hid (rv_3 (s.data.toList.drop k))
        generalize bt (s.data.toList.drop k) 0 = b0 at *
        generalize bt (s.data.toList.drop k) 1 = b1 at *
        generalize bt (s.data.toList.drop k) 2 = b2 at *
        have HK := Lib.hid hkj
        clear hJ hj1 hj5 c1 c2 hkj
        go_wp2_with fail
        go_quiet (fail)
        clear hkw
        go_wp2_with fail
        go_rounds 3
        have hkw : IntKind.i64.wrap ((k : Int) + 3) = (k : Int) + 3 := IntWalk.i64_in _ (by omega)
        generalize 64 * (64 * ((b0 : Int) - 224) + b1 - 128) + b2 - 128 = v at *
        by_cases v0 : 0 ≤ v
        · by_cases vr : isRune v
          · have HR := Lib.hid (fun w => rune_to v true w (decide_eq_true vr))
            have VR := Lib.hid vr
            clear vr
            go_region_held3 (fun _ => True) (trivial) (first | (go_at_call 45; refine (HR.out _).mono ?_; rintro e w' ⟨rfl, rfl⟩) | (go_at_call 46; refine (rbytes_any v _).mono ?_; rintro e w2 ⟨rfl, b2⟩))
            have hb2 : Below B w w2 := (below_drewN hb _).drew.trans (b2.mono (by have := Blk.lt hl; exact Nat.le_of_lt this))
            have hl2 : Blk w2 B 3 leads := Blk.below (hl.drewN nq).drew b2 (Blk.lt hl)
            go_wp2_with fail
            · go_ret2
              exact ⟨rnext_ok HK.out (by omega) (by omega) HV.out v0 VR.out (by assumption) rfl, by rw [← HB.out]; exact hb2⟩
            · go_roundw
              case rel => exact ⟨4, 4, by go_num, rfl, by omega, by omega, rnext_no hno HK.out HV.out v0 VR.out (by assumption), hl2, hb2⟩
              case measure => simp [intOf]
          · have HR := Lib.hid (fun w => rune_to v false w (decide_eq_false vr))
            have VR := Lib.hid vr
            clear vr
            go_quiet ((go_at_call 45; exact quiet_add_left (HR.out _)))
            go_wp2_with fail
            go_roundw
            case rel => exact ⟨4, 4, by go_num, rfl, by omega, by omega, rnext_neg hno HV.out (fun h => VR.out h.2), hl.drewN _, below_drewN hb _⟩
            case measure => simp [intOf]
        · go_quiet (fail)
          go_wp2_with fail
          go_roundw
          case rel => exact ⟨4, 4, by go_num, rfl, by omega, by omega, rnext_neg hno HV.out (fun h => v0 h.1), hl.drewN _, below_drewN hb _⟩
          case measure => simp [intOf]
      · obtain rfl : J = 4 := by omega
        have hkj : k + 4 ≤ s.size := by omega
        have hk0 : (0 : Int) ≤ k := by omega
        have hkn : (0 : Int) ≤ (k : Int) + 4 := by omega
        have hkk : (k : Int) ≤ (k : Int) + 4 := by omega
        have hkm : (k : Int) + 4 ≤ s.size := by omega
        have hkw : IntKind.i64.wrap ((k : Int) + 4) = (k : Int) + 4 := IntWalk.i64_in _ (by omega)
        have y0 := bt_lt (s.data.toList.drop k) 0
        have x0 := bt_at0 s k hk
        have y1 := bt_lt (s.data.toList.drop k) 1
        have hk1 : k + 1 < s.size := by omega
        have x1 := bt_at s k 1 hk1
        have y2 := bt_lt (s.data.toList.drop k) 2
        have hk2 : k + 2 < s.size := by omega
        have x2 := bt_at s k 2 hk2
        have y3 := bt_lt (s.data.toList.drop k) 3
        have hk3 : k + 3 < s.size := by omega
        have x3 := bt_at s k 3 hk3
        have HV := Lib.hid (rv_4 (s.data.toList.drop k))
        generalize bt (s.data.toList.drop k) 0 = b0 at *
        generalize bt (s.data.toList.drop k) 1 = b1 at *
        generalize bt (s.data.toList.drop k) 2 = b2 at *
        generalize bt (s.data.toList.drop k) 3 = b3 at *
        have HK := Lib.hid hkj
        clear hJ hj1 hj5 c1 c2 hkj
        go_wp2_with fail
        go_quiet (fail)
        clear hkw
        go_wp2_with fail
        go_rounds 4
        have hkw : IntKind.i64.wrap ((k : Int) + 4) = (k : Int) + 4 := IntWalk.i64_in _ (by omega)
        generalize 64 * (64 * (64 * ((b0 : Int) - 240) + b1 - 128) + b2 - 128) + b3 - 128 = v at *
        by_cases v0 : 0 ≤ v
        · by_cases vr : isRune v
          · have HR := Lib.hid (fun w => rune_to v true w (decide_eq_true vr))
            have VR := Lib.hid vr
            clear vr
            go_region_held3 (fun _ => True) (trivial) (first | (go_at_call 45; refine (HR.out _).mono ?_; rintro e w' ⟨rfl, rfl⟩) | (go_at_call 46; refine (rbytes_any v _).mono ?_; rintro e w2 ⟨rfl, b2⟩))
            have hb2 : Below B w w2 := (below_drewN hb _).drew.trans (b2.mono (by have := Blk.lt hl; exact Nat.le_of_lt this))
            have hl2 : Blk w2 B 3 leads := Blk.below (hl.drewN nq).drew b2 (Blk.lt hl)
            go_wp2_with fail
            · go_ret2
              exact ⟨rnext_ok HK.out (by omega) (by omega) HV.out v0 VR.out (by assumption) rfl, by rw [← HB.out]; exact hb2⟩
            · go_roundw
              case rel => exact ⟨5, 5, by go_num, rfl, by omega, by omega, rnext_no hno HK.out HV.out v0 VR.out (by assumption), hl2, hb2⟩
              case measure => simp [intOf]
          · have HR := Lib.hid (fun w => rune_to v false w (decide_eq_false vr))
            have VR := Lib.hid vr
            clear vr
            go_quiet ((go_at_call 45; exact quiet_add_left (HR.out _)))
            go_wp2_with fail
            go_roundw
            case rel => exact ⟨5, 5, by go_num, rfl, by omega, by omega, rnext_neg hno HV.out (fun h => VR.out h.2), hl.drewN _, below_drewN hb _⟩
            case measure => simp [intOf]
        · go_quiet (fail)
          go_wp2_with fail
          go_roundw
          case rel => exact ⟨5, 5, by go_num, rfl, by omega, by omega, rnext_neg hno HV.out (fun h => v0 h.1), hl.drewN _, below_drewN hb _⟩
          case measure => simp [intOf]
    · have HN : Hid (next (s.data.toList.drop k) = (65533, 1)) := by
        show _ = _
        refine rtest_none (drop_ne (by rw [← sz_len]; exact hk)) fun i h1 h4 hl => hno i h1 ?_ ?_
        · rw [List.length_drop, ← sz_len] at hl; omega
        · rw [List.length_drop, ← sz_len] at hl; exact hl
      by_cases h4 : j ≤ 4
      · have h5 : ¬ (J ≤ (s.size : Int) - k) := by omega
        clear hc
        go_wp2_with fail
        go_ret2
        exact ⟨by rw [HN.out]; rfl, by rw [← HB.out]; exact hb⟩
      · have h5 : ¬ (J ≤ 4) := by omega
        clear hc
        go_wp2_with fail
        go_ret2
        exact ⟨by rw [HN.out]; rfl, by rw [← HB.out]; exact hb⟩
set_option maxRecDepth 100000 in
theorem rnext_out_1 (s : ByteArray) (k : Int) (w : World) (hk : k < 0) :
    Calls Try.prog 27 #[.string s, .int .i64 k] w fun e w' => e = .returned (rnextV (0, 0)) ∧ w = w' := by
  go_enter Try.func27, Try.ntmps27
  go_wp2
  go_ret2
  exact ⟨rfl, rfl⟩
set_option maxRecDepth 100000 in
theorem rnext_out_2 (s : ByteArray) (k : Int) (w : World) (h0 : 0 ≤ k) (hk : (s.size : Int) ≤ k) :
    Calls Try.prog 27 #[.string s, .int .i64 k] w fun e w' => e = .returned (rnextV (0, 0)) ∧ w = w' := by
  go_enter Try.func27, Try.ntmps27
  go_wp2
  go_ret2
  exact ⟨rfl, rfl⟩
/-- The reference's Next, at any place of any text. -/
theorem rnext_any (s : ByteArray) (k : Int) (w : World) (hs : s.size ≤ maxLen) :
    Calls Try.prog 27 #[.string s, .int .i64 k] w fun e w' => e = .returned (rnextV (nextAt s.data.toList k)) ∧ Below w.heap.size w w' := by
  have hs' : s.size ≤ 9223372036854775807 := by unfold maxLen at hs; omega
  unfold nextAt
  by_cases h0 : k < 0
  · rw [if_pos h0]; exact (rnext_out_1 s k w h0).mono fun e w' ⟨a, b⟩ => ⟨a, by rw [← b]; exact Below.refl _ _⟩
  rw [if_neg h0]
  obtain ⟨k, rfl⟩ := Int.eq_ofNat_of_zero_le (by omega : 0 ≤ k)
  rw [Int.toNat_natCast]
  by_cases hk : k < s.size
  · exact rnext_in s k w hs' hk
  · have hn : s.data.toList.drop k = [] := List.drop_eq_nil_of_le (by rw [← sz_len]; omega)
    rw [hn]
    exact (rnext_out_2 s k w (by omega) (by omega)).mono fun e w' ⟨a, b⟩ => ⟨a, by rw [← b]; exact Below.refl _ _⟩
end Go.Proofs.Ytlogjghbdnaedaa
