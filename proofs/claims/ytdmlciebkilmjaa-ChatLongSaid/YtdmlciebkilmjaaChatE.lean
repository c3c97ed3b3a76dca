/- The law ChatLong. -/
import Derived.Test.YtdmlciebkilmjaaChatP
import Derived.Outline
namespace Go.Proofs.Ytdmlciebkilmjaa
open Go.RowKit
set_option linter.unusedVariables false
set_option linter.unusedSimpArgs false
def lenV : Value → Nat
  | .slice _ n _ => n
  | _ => 0
def u8s (l : List UInt8) : List Value := l.map fun c => Value.int .u8 c.toNat
theorem u8s_append (a b : List UInt8) : u8s (a ++ b) = u8s a ++ u8s b := List.map_append
theorem map_back : ∀ l : List UInt8, l.map ((fun n : Int => UInt8.ofNat n.toNat) ∘ fun c : UInt8 => (c.toNat : Int)) = l
  | [] => rfl
  | c :: t => by
    rw [List.map_cons, map_back t]
    simp
theorem conv_row {wr : World} {base : Nat} {v : Value} {l : List UInt8} (ho : wr.ownsRow base 5 1 v l.length (u8s l)) (hl : l ≠ []) :
    (convert 41 9 v).run Try.prog wr = .ok (.string (strOf l)) wr := by
  rcases ho.2 with ⟨rfl, h0⟩ | ⟨g, cap, cur, rfl, hg, hh, _⟩
  · exact absurd (List.length_eq_zero_iff.1 h0) hl
  · have h := run_convert_bytes_arg wr 41 5 Try.underlying41 Try.underlying5 g 0 l.length cap (l.map fun c => (c.toNat : Int)) (by simp) (fun i hi => by
      have := ho.cellAt i (by omega)
      rw [Nat.zero_add, this, u8s, List.getElem?_map, List.getElem?_eq_getElem hi, List.getD_eq_getElem?_getD, List.getElem?_map, List.getElem?_eq_getElem hi]
      rfl) 9 Try.underlying9
    have e : strOfNums (l.map fun c => (c.toNat : Int)) = strOf l := by rw [strOfNums_eq, List.map_map, map_back]
    rw [h, e]
theorem ownsRow_lenV {w : World} {base : Nat} {e : TypeId} {size n : Nat} {v : Value} {xs : List Value} (h : w.ownsRow base e size v n xs) : lenV v = n := by
  rcases h.2 with ⟨rfl, h0⟩ | ⟨g, cap, cur, rfl, _⟩
  · exact h0.symm
  · rfl
theorem ownsRow_slice {w : World} {base : Nat} {e : TypeId} {size n : Nat} {v : Value} {xs : List Value} (h : w.ownsRow base e size v n xs) : ∃ ao cap, v = .slice ao n cap := by
  rcases h.2 with ⟨rfl, h0⟩ | ⟨g, cap, cur, rfl, _⟩
  · subst h0; exact ⟨_, _, rfl⟩
  · exact ⟨_, _, rfl⟩
theorem u8s_str (s : ByteArray) : Lib.strCells s = u8s s.data.toList := by simp [Lib.strCells, u8s]
theorem isE (s : ByteArray) : s.toList.isEmpty = decide (s.size = 0) := by
  rw [ByteArray.toList_eq, sz_len]
  cases s.data.toList <;> simp
theorem below_grown0 {w0 w w' : World} {base : Nat} {e : TypeId} {size n : Nat} {v : Value} {xs : List Value} (hb : Below base w0 w) (hB : base ≤ w.heap.size) (ho : w.ownsRow base e size v n xs) (hg : w.grownBy w' v.ownBlock) : Below base w0 w' := by
  refine hb.grown hg (by omega) fun j ej => ?_
  exact (ho.lt j ej).1
set_option maxRecDepth 100000 in
set_option maxHeartbeats 4000000 in
theorem lawLong (s : ByteArray) (m n : Int) (w : World) (hs : s.size ≤ 9223372036854775807) (hm : 0 ≤ m ∧ m ≤ 255) (hn : 0 ≤ n ∧ n ≤ 255) :
    Calls Try.prog 6 #[.string s, .int .u8 m, .int .u8 n] w fun e w' => e = .returned (.bool true) ∧ Below w.heap.size w w' := by
  obtain ⟨hm0, hm1⟩ := hm
  obtain ⟨hn0, hn1⟩ := hn
  obtain ⟨i0, hi, hz0, hz1, hz2⟩ := info_parts infoByte
  have hz8 : (s.extract 0 (min (s.size : Int) 8).toNat).size ≤ 8 := by rw [ByteArray.size_extract]; omega
  have HC := Lib.hid (fun w => rclean_any (s.extract 0 (min (s.size : Int) 8).toNat) w (by omega))
  have hcl := clean_length _ (s.extract 0 (min (s.size : Int) 8).toNat).data.toList (Nat.le_refl _)
  rw [← sz_len] at hcl
  have hxz : (strOf (clean (s.extract 0 (min (s.size : Int) 8).toNat).data.toList)).size ≤ 32 := by rw [strOf_size]; omega
  have hxe := isE (strOf (clean (s.extract 0 (min (s.size : Int) 8).toNat).data.toList))
  generalize strOf (clean (s.extract 0 (min (s.size : Int) 8).toNat).data.toList) = x at *
  clear hcl hz8
  have HI := Lib.hid (And.intro hi (And.intro hz0 (And.intro hz1 hz2)))
  clear hi hz0 hz1 hz2
  have hxc : (x.toList.isEmpty = true) ∨ (x.toList.isEmpty = false ∧ 1 ≤ x.size) := by
    rw [hxe]
    by_cases h : x.size = 0
    · exact .inl (decide_eq_true h)
    · exact .inr ⟨decide_eq_false h, by omega⟩
  clear hxe
  go_enter Try.func6, Try.ntmps6
  go_wp2_with fail
  refine (HC.out _).mono ?_
  rintro e w1 ⟨rfl, b1⟩
  have B1 := Lib.hid b1
  clear b1 HC
  rcases hxc with hx | ⟨hx, hx1⟩
  · have hpz : (⟨#[120]⟩ : ByteArray).size = 1 := rfl
    go_wp2_with fail
    have hB0 := B1.out.alloc (B1.out.size) (.cells #[] 5)
    have ho0 : (w1.alloc (.cells #[] 5)).ownsRow w1.heap.size 5 1 (.slice (some ⟨w1.heap.size, 0, none⟩) 0 0) 0 (u8s []) := ⟨by simp [u8s], .inr ⟨w1.heap.size, 0, #[], rfl, Nat.le_refl _, World.alloc_heap_new _ _, by simp [u8s]⟩⟩
    have HO := Lib.hid (And.intro hB0 ho0)
    clear hB0 ho0
    go_loopw [7] (fun v wr => ∃ l : List UInt8, wr.ownsRow w1.heap.size 5 1 v l.length (u8s l) ∧ l.length ≤ 4041 ∧ Below w1.heap.size w1 wr) (fun v _ => 5000 - lenV v)
    case atStart => exact ⟨[], HO.out.2, by simp, (Below.refl _ w1).alloc (Nat.le_refl _) _⟩
    case round =>
      obtain ⟨l, ho, hl, hb⟩ := hrel
      obtain ⟨ao, cap, rfl⟩ := ownsRow_slice ho
      clear HO
      by_cases hlt : (l.length : Int) < 3980 + n % 30
      · obtain ⟨hi, hz0, hz1, hz2⟩ := HI.out
        have e3 : l.length + (⟨#[120]⟩ : ByteArray).size ≤ maxLen := by unfold maxLen; omega
        have e4 : l.length + (⟨#[120]⟩ : ByteArray).size ≤ 140737488355328 := by omega
        have e5 : w1.heap.size ≤ wr.heap.size := hb.size
        go_wp2_with (at_builtin; refine Lib.wpList_append_own_string _ rfl _ _ 41 9 rfl w1.heap.size 5 i0 Try.underlying41 Try.underlying9 hi hz0 hz1 hz2 _ _ _ rfl ho (⟨#[120]⟩ : ByteArray) rfl e3 e4 e5 ?_; intro v' w2 hown' hgrow _; rw [u8s_str, ← u8s_append] at hown'; have hgb := below_grown0 hb hb.size ho hgrow)
        have hlv := ownsRow_lenV hown'
        go_roundw
        case rel => exact ⟨l ++ (⟨#[120]⟩ : ByteArray).data.toList, by rw [List.length_append, ← sz_len]; exact hown', by rw [List.length_append, ← sz_len]; omega, hgb⟩
        case measure => rw [hlv]; show 5000 - _ < 5000 - l.length; omega
      · have hne : l ≠ [] := by rintro rfl; simp at hlt; omega
        have kc := conv_row ho hne
        have HB2 := Lib.hid (B1.out.trans (hb.mono B1.out.size))
        clear ho hb hne HI
        go_wp2_with fail
        go_loop [8, 9] (fun t i => ∃ (j : Nat) (u : List UInt8), i = .int .i64 j ∧ t = .string (strOf u) ∧ (j : Int) ≤ m % 4 ∧ u.length ≤ 4041 + j) (fun _ i => 4 - (intOf i).toNat)
        case atStart => exact ⟨0, l, rfl, rfl, by omega, by omega⟩
        case round =>
          obtain ⟨j, u, rfl, rfl, hj, hu⟩ := hrel
          have hzu := strOf_size u
          by_cases hjl : (j : Int) < m % 4
          · have HA := Lib.hid (strOf_append u [121])
            go_wp2_with fail
            go_round
            case rel => exact ⟨j + 1, u ++ [121], by go_num, by rw [← HA.out]; rfl, by omega, by rw [List.length_append]; simp; omega⟩
            case measure => simp [intOf]; omega
          · have HCu := Lib.hid (fun w => rclean_any (strOf u) w (by omega))
            have hcul := clean_length _ u (Nat.le_refl _)
            rw [strOf_list] at HCu
            have hid := clean_clean u
            have hTz := strOf_size (clean u)
            have HBu := Lib.hid (fun w => chat_any (strOf (clean u)) false w (by omega))
            rw [strOf_list, chatV, if_pos hid] at HBu
            have hPz := chatL_size (clean u) false
            have HRe := Lib.hid (fun w => chatRead_any (strOf (chatL (clean u) false)) w (by omega))
            rw [strOf_list, chat_back hid] at HRe
            unfold chatRV at HRe
            dsimp only at HRe
            have HCt := Lib.hid (fun w => rcut_any (strOf (clean u)) 4000 w (by omega) (by omega) (by omega))
            rw [strOf_list] at HCt
            have hQz := strOf_size (cutL (clean u) 4000)
            have hQl := cutL_length (clean u) 4000 (by omega)
            have HFq := Lib.hid (fun w => fits_any (strOf (cutL (clean u) 4000)) false w (by omega))
            rw [decide_eq_true (by omega)] at HFq
            have HFp := Lib.hid (fun w => fits_any (strOf (clean u)) false w (by omega))
            have hdd : (decide (((strOf (clean u)).size : Int) ≤ 4000) = true ∧ decide ((strOf (clean u)).size ≤ 4000) = true) ∨ (decide (((strOf (clean u)).size : Int) ≤ 4000) = false ∧ decide ((strOf (clean u)).size ≤ 4000) = false) := by
              by_cases h : (strOf (clean u)).size ≤ 4000
              · exact .inl ⟨decide_eq_true (by omega), decide_eq_true h⟩
              · exact .inr ⟨decide_eq_false (by omega), decide_eq_false h⟩
            have hP24 : (strOf (chatL (clean u) false)).size ≤ 24024 := by
              rw [strOf_size]
              unfold chatL
              have h2 := write_length (cutL (clean u) 4000)
              rw [List.length_append, List.length_append]
              have h3 : (endC false).length = 15 := rfl
              have h4 : preC.length = 9 := rfl
              omega
            clear hcul hid hPz hQl hTz hQz
            generalize decide ((strOf (clean u)).size ≤ 4000) = d at *
            generalize strOf (chatL (clean u) false) = P at *
            generalize strOf (cutL (clean u) 4000) = Q at *
            generalize cutB (clean u) 4000 = cb at *
            generalize strOf (clean u) = T at *
            have hself : (Q.toList == Q.toList) = true := by simp
            rcases hdd with ⟨hd, rfl⟩ | ⟨hd, rfl⟩
            all_goals
              go_wp2_with fail
              refine (HCu.out _).mono ?_
              rintro e w2 ⟨rfl, b2⟩
              have hB2 := HB2.out.trans (b2.mono HB2.out.size)
              clear b2
              go_wp2_with fail
              refine (HBu.out _).mono ?_
              rintro e w3 ⟨rfl, b3⟩
              have hP := Blk.new w2 24 #[.string T, .bool false]
              have hP3 := hP.below b3 hP.lt
              have hB2a := hB2.alloc hB2.size (.cells #[.string T, .bool false] 24)
              have hB3 := hB2a.trans (b3.mono hB2a.size)
              clear hP hB2 b3 hB2a
              go_wp2_with fail
              refine (HRe.out _).mono ?_
              rintro e w4 ⟨rfl, b4⟩
              have hP4 := hP3.below b4 hP3.lt
              have hB4 := hB3.trans (b4.mono hB3.size)
              clear hP3 hB3 b4
              go_wp2_with fail
              refine (HCt.out _).mono ?_
              rintro e w5 ⟨rfl, b5⟩
              have hQ := Blk.new w4 24 #[.string Q, .bool false]
              have hQ5 := hQ.below b5 hQ.lt
              have hP5 := (hP4.alloc (.cells #[.string Q, .bool false] 24)).below b5 (by have := hP4.lt; simp; omega)
              have hB4a := hB4.alloc hB4.size (.cells #[.string Q, .bool false] 24)
              have hB5 := hB4a.trans (b5.mono hB4a.size)
              clear hQ hP4 hB4 b5 hB4a
              have q0 := hQ5.cell 0
              have q1 := hQ5.cell 1
              go_wp2_with fail
              refine (HFq.out _).mono ?_
              rintro e w6 ⟨rfl, b6⟩
              have hP6 := hP5.below b6 hP5.lt
              have hB6 := hB5.trans (b6.mono hB5.size)
              clear hP5 hB5 b6 q0 q1 hQ5
              have p0 := hP6.cell 0
              have p1 := hP6.cell 1
              go_wp2_with fail
              refine (HFp.out _).mono ?_
              rintro e w7 ⟨rfl, b7⟩
              have hB7 := hB6.trans (b7.mono hB6.size)
              clear hP6 hB6 b7 p0 p1
              go_wp2_with fail
              refine (awake38_any _).mono ?_
              rintro e w8 ⟨rfl, b8⟩
              go_wp2_with fail
              go_ret
              exact ⟨rfl, hB7.trans (b8.mono hB7.size)⟩
  · go_wp2_with fail
    have hB0 := B1.out.alloc (B1.out.size) (.cells #[] 5)
    have ho0 : (w1.alloc (.cells #[] 5)).ownsRow w1.heap.size 5 1 (.slice (some ⟨w1.heap.size, 0, none⟩) 0 0) 0 (u8s []) := ⟨by simp [u8s], .inr ⟨w1.heap.size, 0, #[], rfl, Nat.le_refl _, World.alloc_heap_new _ _, by simp [u8s]⟩⟩
    have HO := Lib.hid (And.intro hB0 ho0)
    clear hB0 ho0
    go_loopw [7] (fun v wr => ∃ l : List UInt8, wr.ownsRow w1.heap.size 5 1 v l.length (u8s l) ∧ l.length ≤ 4041 ∧ Below w1.heap.size w1 wr) (fun v _ => 5000 - lenV v)
    case atStart => exact ⟨[], HO.out.2, by simp, (Below.refl _ w1).alloc (Nat.le_refl _) _⟩
    case round =>
      obtain ⟨l, ho, hl, hb⟩ := hrel
      obtain ⟨ao, cap, rfl⟩ := ownsRow_slice ho
      clear HO
      by_cases hlt : (l.length : Int) < 3980 + n % 30
      · obtain ⟨hi, hz0, hz1, hz2⟩ := HI.out
        have e3 : l.length + x.size ≤ maxLen := by unfold maxLen; omega
        have e4 : l.length + x.size ≤ 140737488355328 := by omega
        have e5 : w1.heap.size ≤ wr.heap.size := hb.size
        go_wp2_with (at_builtin; refine Lib.wpList_append_own_string _ rfl _ _ 41 9 rfl w1.heap.size 5 i0 Try.underlying41 Try.underlying9 hi hz0 hz1 hz2 _ _ _ rfl ho x rfl e3 e4 e5 ?_; intro v' w2 hown' hgrow _; rw [u8s_str, ← u8s_append] at hown'; have hgb := below_grown0 hb hb.size ho hgrow)
        have hlv := ownsRow_lenV hown'
        go_roundw
        case rel => exact ⟨l ++ x.data.toList, by rw [List.length_append, ← sz_len]; exact hown', by rw [List.length_append, ← sz_len]; omega, hgb⟩
        case measure => rw [hlv]; show 5000 - _ < 5000 - l.length; omega
      · have hne : l ≠ [] := by rintro rfl; simp at hlt; omega
        have kc := conv_row ho hne
        have HB2 := Lib.hid (B1.out.trans (hb.mono B1.out.size))
        clear ho hb hne HI
        go_wp2_with fail
        go_loop [8, 9] (fun t i => ∃ (j : Nat) (u : List UInt8), i = .int .i64 j ∧ t = .string (strOf u) ∧ (j : Int) ≤ m % 4 ∧ u.length ≤ 4041 + j) (fun _ i => 4 - (intOf i).toNat)
        case atStart => exact ⟨0, l, rfl, rfl, by omega, by omega⟩
        case round =>
          obtain ⟨j, u, rfl, rfl, hj, hu⟩ := hrel
          have hzu := strOf_size u
          by_cases hjl : (j : Int) < m % 4
          · have HA := Lib.hid (strOf_append u [121])
            go_wp2_with fail
            go_round
            case rel => exact ⟨j + 1, u ++ [121], by go_num, by rw [← HA.out]; rfl, by omega, by rw [List.length_append]; simp; omega⟩
            case measure => simp [intOf]; omega
          · have HCu := Lib.hid (fun w => rclean_any (strOf u) w (by omega))
            have hcul := clean_length _ u (Nat.le_refl _)
            rw [strOf_list] at HCu
            have hid := clean_clean u
            have hTz := strOf_size (clean u)
            have HBu := Lib.hid (fun w => chat_any (strOf (clean u)) false w (by omega))
            rw [strOf_list, chatV, if_pos hid] at HBu
            have hPz := chatL_size (clean u) false
            have HRe := Lib.hid (fun w => chatRead_any (strOf (chatL (clean u) false)) w (by omega))
            rw [strOf_list, chat_back hid] at HRe
            unfold chatRV at HRe
            dsimp only at HRe
            have HCt := Lib.hid (fun w => rcut_any (strOf (clean u)) 4000 w (by omega) (by omega) (by omega))
            rw [strOf_list] at HCt
            have hQz := strOf_size (cutL (clean u) 4000)
            have hQl := cutL_length (clean u) 4000 (by omega)
            have HFq := Lib.hid (fun w => fits_any (strOf (cutL (clean u) 4000)) false w (by omega))
            rw [decide_eq_true (by omega)] at HFq
            have HFp := Lib.hid (fun w => fits_any (strOf (clean u)) false w (by omega))
            have hdd : (decide (((strOf (clean u)).size : Int) ≤ 4000) = true ∧ decide ((strOf (clean u)).size ≤ 4000) = true) ∨ (decide (((strOf (clean u)).size : Int) ≤ 4000) = false ∧ decide ((strOf (clean u)).size ≤ 4000) = false) := by
              by_cases h : (strOf (clean u)).size ≤ 4000
              · exact .inl ⟨decide_eq_true (by omega), decide_eq_true h⟩
              · exact .inr ⟨decide_eq_false (by omega), decide_eq_false h⟩
            have hP24 : (strOf (chatL (clean u) false)).size ≤ 24024 := by
              rw [strOf_size]
              unfold chatL
              have h2 := write_length (cutL (clean u) 4000)
              rw [List.length_append, List.length_append]
              have h3 : (endC false).length = 15 := rfl
              have h4 : preC.length = 9 := rfl
              omega
            clear hcul hid hPz hQl hTz hQz
            generalize decide ((strOf (clean u)).size ≤ 4000) = d at *
            generalize strOf (chatL (clean u) false) = P at *
            generalize strOf (cutL (clean u) 4000) = Q at *
            generalize cutB (clean u) 4000 = cb at *
            generalize strOf (clean u) = T at *
            have hself : (Q.toList == Q.toList) = true := by simp
            rcases hdd with ⟨hd, rfl⟩ | ⟨hd, rfl⟩
            all_goals
              go_wp2_with fail
              refine (HCu.out _).mono ?_
              rintro e w2 ⟨rfl, b2⟩
              have hB2 := HB2.out.trans (b2.mono HB2.out.size)
              clear b2
              go_wp2_with fail
              refine (HBu.out _).mono ?_
              rintro e w3 ⟨rfl, b3⟩
              have hP := Blk.new w2 24 #[.string T, .bool false]
              have hP3 := hP.below b3 hP.lt
              have hB2a := hB2.alloc hB2.size (.cells #[.string T, .bool false] 24)
              have hB3 := hB2a.trans (b3.mono hB2a.size)
              clear hP hB2 b3 hB2a
              go_wp2_with fail
              refine (HRe.out _).mono ?_
              rintro e w4 ⟨rfl, b4⟩
              have hP4 := hP3.below b4 hP3.lt
              have hB4 := hB3.trans (b4.mono hB3.size)
              clear hP3 hB3 b4
              go_wp2_with fail
              refine (HCt.out _).mono ?_
              rintro e w5 ⟨rfl, b5⟩
              have hQ := Blk.new w4 24 #[.string Q, .bool false]
              have hQ5 := hQ.below b5 hQ.lt
              have hP5 := (hP4.alloc (.cells #[.string Q, .bool false] 24)).below b5 (by have := hP4.lt; simp; omega)
              have hB4a := hB4.alloc hB4.size (.cells #[.string Q, .bool false] 24)
              have hB5 := hB4a.trans (b5.mono hB4a.size)
              clear hQ hP4 hB4 b5 hB4a
              have q0 := hQ5.cell 0
              have q1 := hQ5.cell 1
              go_wp2_with fail
              refine (HFq.out _).mono ?_
              rintro e w6 ⟨rfl, b6⟩
              have hP6 := hP5.below b6 hP5.lt
              have hB6 := hB5.trans (b6.mono hB5.size)
              clear hP5 hB5 b6 q0 q1 hQ5
              have p0 := hP6.cell 0
              have p1 := hP6.cell 1
              go_wp2_with fail
              refine (HFp.out _).mono ?_
              rintro e w7 ⟨rfl, b7⟩
              have hB7 := hB6.trans (b7.mono hB6.size)
              clear hP6 hB6 b7 p0 p1
              go_wp2_with fail
              refine (awake38_any _).mono ?_
              rintro e w8 ⟨rfl, b8⟩
              go_wp2_with fail
              go_ret
              exact ⟨rfl, hB7.trans (b8.mono hB7.size)⟩
end Go.Proofs.Ytdmlciebkilmjaa
