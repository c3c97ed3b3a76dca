/- The laws of chapter 07. -/
import Derived.Test.YtcbfdagmghgaiaaQuoG
import Derived.Test.YtcbfdagmghgaiaaQuoI
namespace Go.Proofs.Ytcbfdagmghgaiaa
open Go.RowKit
set_option linter.unusedVariables false
set_option linter.unusedSimpArgs false
def few7 (s : ByteArray) : ByteArray := s.extract 0 (min s.size 300)
theorem few7_size (s : ByteArray) : (few7 s).size ≤ 300 := by unfold few7; rw [ByteArray.size_extract]; omega
theorem few7_any (s : ByteArray) (w : World) (hs : s.size ≤ 9223372036854775807) :
    Calls Try.prog 7 #[.string s] w fun e w' => e = .returned (.string (few7 s)) ∧ w = w' := by
  have HF : Hid (few7 s = s.extract 0 (min (s.size : Int) 300).toNat) := by
    show _ = _
    unfold few7; congr 1; omega
  go_enter Try.func7, Try.ntmps7
  go_wp2
  go_ret
  exact ⟨by rw [HF.out]; rfl, rfl⟩
theorem read_to (s : ByteArray) (v : Value) (w : World) (hs : s.size ≤ 1000000) (h : readV (readJ s.data.toList) = v) :
    Calls Try.prog 9 #[.string s] w fun e W' => e = .returned v ∧ Below w.heap.size w W' := by
  rw [← h]; exact read_any s w hs
theorem write_to (s t : ByteArray) (w : World) (hs : s.size ≤ 60000) (h : strOf (writeJ s.data.toList) = t) :
    Calls Try.prog 8 #[.string s] w fun e W' => e = .returned (.string t) ∧ Below w.heap.size w W' := by
  rw [← h]; exact write_any s w hs
theorem aw_1 : readJ [92, 117, 68, 56, 51, 68, 92, 117, 68, 68, 49, 52] = some [240, 159, 148, 148] := by decide +kernel
theorem aw_2 : readJ [92, 117, 68, 56, 51, 68] = none := by decide +kernel
theorem aw_3 : writeJ [97, 34, 98, 10] = [97, 92, 34, 98, 92, 110] := by decide +kernel
theorem aw_4 : writeJ [60] = [92, 117, 48, 48, 51, 67] := by decide +kernel
set_option maxRecDepth 100000 in
set_option maxHeartbeats 2000000 in
theorem awake7_any (w : World) :
    Calls Try.prog 13 #[] w fun e w' => e = .returned (.bool true) ∧ Below w.heap.size w w' := by
  have H1 := Lib.hid (fun w => read_to ⟨#[92, 117, 68, 56, 51, 68, 92, 117, 68, 68, 49, 52]⟩ (.tuple #[.string ⟨#[240, 159, 148, 148]⟩, .int .i64 0]) w (by decide) (by show readV (readJ [92, 117, 68, 56, 51, 68, 92, 117, 68, 68, 49, 52]) = _; rw [aw_1]; rfl))
  have H2 := Lib.hid (fun w => read_to ⟨#[92, 117, 68, 56, 51, 68]⟩ (.tuple #[.string ⟨#[]⟩, .int .i64 7]) w (by decide) (by show readV (readJ [92, 117, 68, 56, 51, 68]) = _; rw [aw_2]; rfl))
  have H3 := Lib.hid (fun w => write_to ⟨#[97, 34, 98, 10]⟩ ⟨#[97, 92, 34, 98, 92, 110]⟩ w (by decide) (by show strOf (writeJ [97, 34, 98, 10]) = _; rw [aw_3]; rfl))
  have H4 := Lib.hid (fun w => write_to ⟨#[60]⟩ ⟨#[92, 117, 48, 48, 51, 67]⟩ w (by decide) (by show strOf (writeJ [60]) = _; rw [aw_4]; rfl))
  go_enter Try.func13, Try.ntmps13
  go_wp2_with fail
  refine (H1.out _).mono ?_
  rintro e w1 ⟨rfl, b1⟩
  go_wp2_with fail
  refine (H2.out _).mono ?_
  rintro e w2 ⟨rfl, b2⟩
  have b2 := b1.trans (b2.mono b1.size)
  go_wp2_with fail
  refine (H3.out _).mono ?_
  rintro e w3 ⟨rfl, b3⟩
  have b3 := b2.trans (b3.mono b2.size)
  go_wp2_with fail
  refine (H4.out _).mono ?_
  rintro e w4 ⟨rfl, b4⟩
  have b4 := b3.trans (b4.mono b3.size)
  go_wp2_with fail
  go_ret
  exact ⟨rfl, b4⟩
theorem oneAt_bound (l : List UInt8) (k : Int) : ∃ r n : Nat, ∃ b : Bool, oneV (oneAt l k) = .tuple #[.int .i32 r, .int .i64 n, .bool b] ∧ roneV (oneAt l k) = .tuple #[.int .i64 r, .int .i64 n, .bool b] ∧ r ≤ 1114111 := by
  cases h : oneAt l k with
  | none => exact ⟨0, 0, false, rfl, rfl, by omega⟩
  | some p =>
    obtain ⟨r, n⟩ := p
    refine ⟨r, n, true, rfl, rfl, ?_⟩
    unfold oneAt at h
    split at h
    · cases h
    · have := (oneJ_bound h).1; unfold isRune at this; omega
set_option maxHeartbeats 2000000 in
theorem lawOne (s : ByteArray) (k : Int) (w : World) (hs : s.size ≤ 9223372036854775807) :
    Calls Try.prog 4 #[.string s, .int .i64 k] w fun e w' => e = .returned (.bool true) ∧ Below w.heap.size w w' := by
  have hz := few7_size s
  have HF := Lib.hid (fun w => few7_any s w hs)
  have HN := Lib.hid (fun w => one_any (few7 s) k w (by omega))
  have HR := Lib.hid (fun w => rone_any (few7 s) k w (by omega))
  obtain ⟨r, n, b, h1, h2, hr⟩ := oneAt_bound (few7 s).data.toList k
  rw [h1] at HN
  rw [h2] at HR
  have hr1 : (r : Int) / 64 < 20000 := by omega
  have hr0 : (0 : Int) ≤ r := by omega
  clear h1 h2 hr
  generalize (r : Int) = R at *
  have g1 : (R == R) = true := by simp
  have g2 : ((n : Int) == (n : Int)) = true := by simp
  have g3 : (b == b) = true := by simp
  go_enter Try.func4, Try.ntmps4
  go_wp2_with fail
  refine (HF.out _).mono ?_
  rintro e w2 ⟨rfl, rfl⟩
  go_wp2_with fail
  refine (HN.out _).mono ?_
  rintro e w2 ⟨rfl, b1⟩
  go_wp2_with fail
  refine (HR.out _).mono ?_
  rintro e w3 ⟨rfl, b2⟩
  have b2 := b1.trans (b2.mono b1.size)
  go_wp2_with fail
  refine (awake7_any _).mono ?_
  rintro e w4 ⟨rfl, b3⟩
  go_wp2_with fail
  go_ret
  exact ⟨rfl, b2.trans (b3.mono b2.size)⟩
set_option maxHeartbeats 2000000 in
theorem lawReads (s : ByteArray) (w : World) (hs : s.size ≤ 9223372036854775807) :
    Calls Try.prog 5 #[.string s] w fun e w' => e = .returned (.bool true) ∧ Below w.heap.size w w' := by
  have hz := few7_size s
  have HF := Lib.hid (fun w => few7_any s w hs)
  have HN := Lib.hid (fun w => read_any (few7 s) w (by omega))
  have HR := Lib.hid (fun w => rread_any (few7 s) w (by omega))
  obtain ⟨t, c, hv⟩ : ∃ (t : ByteArray) (c : Int), readV (readJ (few7 s).data.toList) = .tuple #[.string t, .int .i64 c] := by
    cases readJ (few7 s).data.toList <;> exact ⟨_, _, rfl⟩
  rw [hv] at HN HR
  clear hv
  have g1 : (t.toList == t.toList) = true := by simp
  have g2 : (c == c) = true := by simp
  go_enter Try.func5, Try.ntmps5
  go_wp2_with fail
  refine (HF.out _).mono ?_
  rintro e w2 ⟨rfl, rfl⟩
  go_wp2_with fail
  refine (HN.out _).mono ?_
  rintro e w2 ⟨rfl, b1⟩
  go_wp2_with fail
  refine (HR.out _).mono ?_
  rintro e w3 ⟨rfl, b2⟩
  have b2 := b1.trans (b2.mono b1.size)
  go_wp2_with fail
  refine (awake7_any _).mono ?_
  rintro e w4 ⟨rfl, b3⟩
  go_wp2_with fail
  go_ret
  exact ⟨rfl, b2.trans (b3.mono b2.size)⟩
set_option maxHeartbeats 2000000 in
theorem lawWrites (s : ByteArray) (w : World) (hs : s.size ≤ 9223372036854775807) :
    Calls Try.prog 3 #[.string s] w fun e w' => e = .returned (.bool true) ∧ Below w.heap.size w w' := by
  have hz := few7_size s
  have HF := Lib.hid (fun w => few7_any s w hs)
  generalize few7 s = t at *
  have HN := Lib.hid (fun w => write_any t w (by omega))
  have HR := Lib.hid (fun w => rwrite_any t w (by omega))
  have HD := Lib.hid (fun w => rwhole_any t w (by omega))
  have hwl := write_length t.data.toList
  rw [← sz_len] at hwl
  have HB := Lib.hid (fun w => read_to (strOf (writeJ t.data.toList)) (.tuple #[.string (strOf (joined (runes t.data.toList))), .int .i64 0]) w (by rw [strOf_size]; omega) (by rw [strOf_list, read_write]; rfl))
  have HJ := Lib.hid (fun w => ris_any t w (by omega))
  have hgd : good t.data.toList = true → strOf (joined (runes t.data.toList)) = t := fun h => by rw [joined_good _ _ (Nat.le_refl _) h, strOf_data]
  generalize strOf (writeJ t.data.toList) = x at *
  generalize strOf (joined (runes t.data.toList)) = y at *
  generalize good t.data.toList = g at *
  clear hz hwl
  cases g
  · have g1 : (x.toList == x.toList) = true := by simp
    have g2 : (y.toList == y.toList) = true := by simp
    clear hgd
    go_enter Try.func3, Try.ntmps3
    go_wp2_with fail
    refine (HF.out _).mono ?_
    rintro e w2 ⟨rfl, rfl⟩
    go_wp2_with fail
    refine (HN.out _).mono ?_
    rintro e w2 ⟨rfl, b1⟩
    go_wp2_with fail
    refine (HB.out _).mono ?_
    rintro e w3 ⟨rfl, b2⟩
    have b2 := b1.trans (b2.mono b1.size)
    go_wp2_with fail
    refine (HR.out _).mono ?_
    rintro e w4 ⟨rfl, b3⟩
    have b3 := b2.trans (b3.mono b2.size)
    go_wp2_with fail
    refine (HD.out _).mono ?_
    rintro e w5 ⟨rfl, b4⟩
    have b4 := b3.trans (b4.mono b3.size)
    go_wp2_with fail
    refine (HJ.out _).mono ?_
    rintro e w6 ⟨rfl, b5⟩
    have b5 := b4.trans (b5.mono b4.size)
    go_wp2_with fail
    refine (awake7_any _).mono ?_
    rintro e w7 ⟨rfl, b6⟩
    go_wp2_with fail
    go_ret
    exact ⟨rfl, b5.trans (b6.mono b5.size)⟩
  · have hyt := hgd rfl
    clear hgd
    subst hyt
    have g1 : (x.toList == x.toList) = true := by simp
    have g2 : (y.toList == y.toList) = true := by simp
    go_enter Try.func3, Try.ntmps3
    go_wp2_with fail
    refine (HF.out _).mono ?_
    rintro e w2 ⟨rfl, rfl⟩
    go_wp2_with fail
    refine (HN.out _).mono ?_
    rintro e w2 ⟨rfl, b1⟩
    go_wp2_with fail
    refine (HB.out _).mono ?_
    rintro e w3 ⟨rfl, b2⟩
    have b2 := b1.trans (b2.mono b1.size)
    go_wp2_with fail
    refine (HR.out _).mono ?_
    rintro e w4 ⟨rfl, b3⟩
    have b3 := b2.trans (b3.mono b2.size)
    go_wp2_with fail
    refine (HD.out _).mono ?_
    rintro e w5 ⟨rfl, b4⟩
    have b4 := b3.trans (b4.mono b3.size)
    go_wp2_with fail
    refine (HJ.out _).mono ?_
    rintro e w6 ⟨rfl, b5⟩
    have b5 := b4.trans (b5.mono b4.size)
    go_wp2_with fail
    refine (awake7_any _).mono ?_
    rintro e w7 ⟨rfl, b6⟩
    go_wp2_with fail
    go_ret
    exact ⟨rfl, b5.trans (b6.mono b5.size)⟩
theorem write_drop {rs : List Nat} (h : ∀ r ∈ rs, isRune (r : Int)) (h0 : rs.flatMap wrJ ≠ []) : ∃ r n, oneJ (rs.flatMap wrJ) = some (r, n) ∧ ∃ rs' : List Nat, (rs.flatMap wrJ).drop n = rs'.flatMap wrJ ∧ ∀ r ∈ rs', isRune (r : Int) := by
  cases rs with
  | nil => exact absurd rfl h0
  | cons r t => exact ⟨r, (wrJ r).length, by rw [List.flatMap_cons]; exact oneJ_wr (h r (by simp)) _, t, by rw [List.flatMap_cons, List.drop_left], fun x hx => h x (by simp [hx])⟩
set_option maxHeartbeats 4000000 in
theorem lawSafe (s : ByteArray) (w : World) (hs : s.size ≤ 9223372036854775807) :
    Calls Try.prog 6 #[.string s] w fun e w' => e = .returned (.bool true) ∧ Below w.heap.size w w' := by
  have hz := few7_size s
  have HF := Lib.hid (fun w => few7_any s w hs)
  generalize few7 s = t at *
  have HN := Lib.hid (fun w => write_any t w (by omega))
  have hwl := write_length t.data.toList
  rw [← sz_len] at hwl
  have hsz : (strOf (writeJ t.data.toList)).size ≤ 1800 := by rw [strOf_size]; omega
  have HJ := Lib.hid (fun w => ris_any (strOf (writeJ t.data.toList)) w (by omega))
  rw [strOf_list, good_write] at HJ
  have HT := Lib.hid (write_tame t.data.toList)
  have H0 : Hid (∃ rs : List Nat, (strOf (writeJ t.data.toList)).data.toList = rs.flatMap wrJ ∧ ∀ r ∈ rs, isRune (r : Int)) := ⟨_, strOf_list _, runes_rune _ _ (Nat.le_refl _)⟩
  have HT2 : Hid (∀ b ∈ (strOf (writeJ t.data.toList)).data.toList, tame b.toNat) := by rw [strOf_list]; exact HT.out
  clear HT
  generalize strOf (writeJ t.data.toList) = x at *
  have HL := Lib.hid (sz_len x)
  clear hz hwl
  go_enter Try.func6, Try.ntmps6
  go_wp2_with fail
  refine (HF.out _).mono ?_
  rintro e w2 ⟨rfl, rfl⟩
  go_wp2_with fail
  refine (HN.out _).mono ?_
  rintro e w2 ⟨rfl, b1⟩
  have B1 := Lib.hid b1
  clear b1
  go_wp2_with fail
  go_loop [4] (fun i => ∃ k : Nat, k ≤ x.size ∧ i = .int .i64 k) (fun i => x.size - (intOf i).toNat)
  case atStart => exact ⟨0, by omega, rfl⟩
  case round =>
    obtain ⟨k, hk, rfl⟩ := hrel
    by_cases hlt : k < x.size
    · have hx := bt_byte x k hlt
      have y0 := bt_lt x.data.toList k
      have hlt2 : k < x.data.toList.length := by rw [← HL.out]; exact hlt
      have ht : tame (bt x.data.toList k) := by
        rw [← bt_get hlt2]; exact HT2.out _ (List.getElem_mem _)
      obtain ⟨t1, t2, t3, t4, t5⟩ := ht
      generalize bt x.data.toList k = c at *
      have g1 : ((c : Int) == 38) = false := by simp; omega
      have g2 : ((c : Int) == 60) = false := by simp; omega
      have g3 : ((c : Int) == 62) = false := by simp; omega
      have g4 : ((c : Int) == 127) = false := by simp; omega
      clear t2 t3 t4 t5 hlt2
      go_wp2_with fail
      go_round
      case rel => exact ⟨k + 1, by omega, by go_num⟩
      case measure => simp [intOf]; omega
    · obtain rfl : k = x.size := by omega
      clear hlt hk HT2
      go_wp2_with fail
      go_loopw [6] (fun z wr => ∃ (k : Nat) (rs : List Nat), z = .int .i64 k ∧ k ≤ x.size ∧ x.data.toList.drop k = rs.flatMap wrJ ∧ (∀ r ∈ rs, isRune (r : Int)) ∧ Below w2.heap.size w2 wr) (fun z _ => x.size - (intOf z).toNat)
      case atStart =>
        obtain ⟨rs, h1, h2⟩ := H0.out
        exact ⟨0, rs, rfl, Nat.zero_le _, h1, h2, Below.refl _ _⟩
      case round =>
        obtain ⟨k, rs, rfl, hk, hd, hrs, hb⟩ := hrel
        by_cases hlt : k < x.size
        · have hne : x.data.toList.drop k ≠ [] := drop_ne (by rw [← sz_len]; exact hlt)
          rw [hd] at hne
          obtain ⟨r, n, ho, rs', hd2, hrs2⟩ := write_drop hrs hne
          rw [← hd] at ho
          obtain ⟨hr, hn1, hn12, hnl⟩ := oneJ_bound ho
          rw [List.length_drop, ← HL.out] at hnl
          have HO : Hid (∀ w, Calls Try.prog 14 #[.string x, .int .i64 k] w fun e w' => e = .returned (.tuple #[.int .i32 r, .int .i64 n, .bool true]) ∧ Below w.heap.size w w') := fun w => one_at x k _ w (by omega) ho
          have HD : Hid (x.data.toList.drop (k + n) = rs'.flatMap wrJ) := by show _ = _; rw [← List.drop_drop, hd, hd2]
          have HR2 := Lib.hid hrs2
          clear hne ho hd hd2 hrs hrs2 hr H0
          go_wp2_with fail
          refine (HO.out _).mono ?_
          rintro e w3 ⟨rfl, b3⟩
          go_wp2_with fail
          go_roundw
          case rel => exact ⟨k + n, rs', by go_num, by omega, HD.out, HR2.out, hb.trans (b3.mono hb.size)⟩
          case measure => simp [intOf]; omega
        · clear hd hrs H0
          have hb1 := B1.out.trans (hb.mono B1.out.size)
          go_wp2_with fail
          refine (HJ.out _).mono ?_
          rintro e w3 ⟨rfl, b3⟩
          have b3 := hb1.trans (b3.mono hb1.size)
          go_wp2_with fail
          refine (awake7_any _).mono ?_
          rintro e w4 ⟨rfl, b4⟩
          go_wp2_with fail
          go_ret
          exact ⟨rfl, b3.trans (b4.mono b3.size)⟩
end Go.Proofs.Ytcbfdagmghgaiaa
