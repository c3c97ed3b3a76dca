/- Walks: the document's post, written; the law ChatBuilds. -/
import Derived.Test.YtdmlciebkilmjaaChatA
namespace Go.Proofs.Ytdmlciebkilmjaa
open Go.RowKit
set_option linter.unusedVariables false
set_option linter.unusedSimpArgs false
set_option maxRecDepth 100000 in
set_option maxHeartbeats 1000000 in
theorem rchat_bad (t : ByteArray) (b : Bool) (w : World) (hs : t.size ≤ 60000) (hc : clean t.data.toList ≠ t.data.toList) :
    Calls Try.prog 9 #[.agg #[.string t, .bool b]] w fun e w' => e = .returned (chatV t.data.toList b) ∧ Below w.heap.size w w' := by
  have HV : Hid (chatV t.data.toList b = .tuple #[.string ⟨#[]⟩, .int .i64 7]) := by show _ = _; unfold chatV; rw [if_neg hc]
  have HC := Lib.hid (fun w => rclean_any t w hs)
  have hq : ((strOf (clean t.data.toList)).toList == t.toList) = false := by
    rw [strOf_toL]
    simp only [beq_eq_false_iff_ne, ne_eq]
    intro h; apply hc; rw [h, ByteArray.toList_eq]
  clear hc
  generalize strOf (clean t.data.toList) = x at *
  go_enter Try.func9, Try.ntmps9
  go_wp2_with fail
  have hP := Blk.new w 24 #[.string t, .bool b]
  have hB := (Below.refl w.heap.size w).alloc (Nat.le_refl _) (.cells #[.string t, .bool b] 24)
  have hlt := hP.lt
  generalize hW : w.alloc (.cells #[.string t, .bool b] 24) = w0 at *
  have c0 := hP.cell 0
  go_region_held3 (fun w' => w'.cell? ⟨w.heap.size, 0, none⟩ = some (.string t)) (first | exact hP.cell 0 | exact (hP.drew).cell 0 | exact ((hP.drew).below b2 hlt).cell 0) ((go_at_call 14; refine (HC.out _).mono ?_; rintro e w2 ⟨rfl, b2⟩))
  go_wp2_with fail
  go_ret2
  exact ⟨by rw [HV.out]; rfl, hB.trans ((below_drew b2).mono hB.size)⟩
def midC : List UInt8 := [34, 44, 34, 108, 111, 117, 100, 34, 58]
def wordC (b : Bool) : List UInt8 := if b then [116, 114, 117, 101] else [102, 97, 108, 115, 101]
theorem endC_eq (b : Bool) : endC b = midC ++ wordC b ++ [125] := by cases b <;> rfl
set_option maxRecDepth 100000 in
set_option maxHeartbeats 1000000 in
theorem rchat_ok (t : ByteArray) (b : Bool) (w : World) (hs : t.size ≤ 60000) (hc : clean t.data.toList = t.data.toList) :
    Calls Try.prog 9 #[.agg #[.string t, .bool b]] w fun e w' => e = .returned (chatV t.data.toList b) ∧ Below w.heap.size w w' := by
  have HV : Hid (∀ x : ByteArray, x = strOf preC ++ strOf (writeJ (cutL t.data.toList 4000)) ++ strOf midC ++ strOf (wordC b) ++ strOf [125] → Ending.returned (.tuple #[.string x, .int .i64 0]) = .returned (chatV t.data.toList b)) := by
    intro x hx; unfold chatV chatL; rw [if_pos hc, hx, strOf_append, strOf_append, strOf_append, strOf_append, endC_eq]; simp only [List.append_assoc]
  have HC := Lib.hid (fun w => rclean_any t w hs)
  have HT := Lib.hid (fun w => rcut_any t 4000 w hs (by omega) (by omega))
  have hl4 := cutL_length t.data.toList 4000 (by omega)
  have hw4 := write_length (cutL t.data.toList 4000)
  have HW := Lib.hid (fun w => rwrite_any (strOf (cutL t.data.toList 4000)) w (by rw [strOf_size]; omega))
  rw [strOf_list] at HW
  have hz1 : (strOf (writeJ (cutL t.data.toList 4000))).size ≤ 24000 := by rw [strOf_size]; omega
  rw [hc, strOf_data] at HC
  have hq : (t.toList == t.toList) = true := by simp
  clear hc hl4 hw4
  generalize cutB t.data.toList 4000 = cb at *
  generalize strOf (cutL t.data.toList 4000) = x at *
  generalize strOf (writeJ (cutL t.data.toList 4000)) = y at *
  go_enter Try.func9, Try.ntmps9
  go_wp2_with fail
  have hP := Blk.new w 24 #[.string t, .bool b]
  have hB := (Below.refl w.heap.size w).alloc (Nat.le_refl _) (.cells #[.string t, .bool b] 24)
  have hlt := hP.lt
  generalize hW : w.alloc (.cells #[.string t, .bool b] 24) = w0 at *
  have c0 := hP.cell 0
  go_region_held3 (fun w' => w'.cell? ⟨w.heap.size, 0, none⟩ = some (.string t)) (first | exact hP.cell 0 | exact (hP.drew).cell 0 | exact ((hP.drew).below b2 hlt).cell 0) ((go_at_call 14; refine (HC.out _).mono ?_; rintro e w2 ⟨rfl, b2⟩))
  have hP2 := (hP.drew).below b2 hlt
  have hB2 := hB.trans ((below_drew b2).mono hB.size)
  have hlt2 := hP2.lt
  clear c0
  have c0 := hP2.cell 0
  clear hP hB b2 hlt
  go_wp2_with fail
  refine (HT.out _).mono ?_
  rintro e w3 ⟨rfl, b3⟩
  have hP3 := hP2.below b3 hlt2
  have hB3 := hB2.trans (b3.mono hB2.size)
  clear c0
  have c1 := hP3.cell 1
  clear hP2 hB2 b3
  cases b
  all_goals
    go_wp2_with fail
    refine (HW.out _).mono ?_
    rintro e w4 ⟨rfl, b4⟩
    go_wp2_with fail
    go_ret2
    exact ⟨HV.out _ rfl, hB3.trans (b4.mono hB3.size)⟩
theorem rchat_any (t : ByteArray) (b : Bool) (w : World) (hs : t.size ≤ 60000) :
    Calls Try.prog 9 #[.agg #[.string t, .bool b]] w fun e w' => e = .returned (chatV t.data.toList b) ∧ Below w.heap.size w w' := by
  by_cases h : clean t.data.toList = t.data.toList
  · exact rchat_ok t b w hs h
  · exact rchat_bad t b w hs h
theorem fits_any (t : ByteArray) (b : Bool) (w : World) (hs : t.size ≤ 1000000) :
    Calls Try.prog 10 #[.agg #[.string t, .bool b]] w fun e w' => e = .returned (.bool (decide (t.size ≤ 4000))) ∧ Below w.heap.size w w' := by
  have HV : Hid (decide ((t.size : Int) ≤ 4000) = decide (t.size ≤ 4000)) := by
    show _ = _
    by_cases h : t.size ≤ 4000
    · rw [decide_eq_true h, decide_eq_true (by omega)]
    · rw [decide_eq_false h, decide_eq_false (by omega)]
  go_enter Try.func10, Try.ntmps10
  go_wp2
  go_ret
  exact ⟨by rw [← HV.out]; rfl, (Below.refl w.heap.size w).alloc (Nat.le_refl _) _⟩
def few38 (s : ByteArray) : ByteArray := s.extract 0 (min s.size 200)
theorem few38_size (s : ByteArray) : (few38 s).size ≤ 200 := by unfold few38; rw [ByteArray.size_extract]; omega
theorem few38_any (s : ByteArray) (w : World) (hs : s.size ≤ 9223372036854775807) :
    Calls Try.prog 7 #[.string s] w fun e w' => e = .returned (.string (few38 s)) ∧ w = w' := by
  have HF : Hid (few38 s = s.extract 0 (min (s.size : Int) 200).toNat) := by
    show _ = _
    unfold few38; congr 1; omega
  go_enter Try.func7, Try.ntmps7
  go_wp2
  go_ret
  exact ⟨by rw [HF.out]; rfl, rfl⟩
theorem chatV_ex : chatV [97, 34, 98] true = .tuple #[.string ⟨#[123, 34, 116, 101, 120, 116, 34, 58, 34, 97, 92, 34, 98, 34, 44, 34, 108, 111, 117, 100, 34, 58, 116, 114, 117, 101, 125]⟩, .int .i64 0] := by
  have h1 : clean [97, 34, 98] = [97, 34, 98] := by decide +kernel
  have h2 : chatL [97, 34, 98] true = [123, 34, 116, 101, 120, 116, 34, 58, 34, 97, 92, 34, 98, 34, 44, 34, 108, 111, 117, 100, 34, 58, 116, 114, 117, 101, 125] := by decide +kernel
  unfold chatV
  rw [if_pos h1, h2]
  rfl
set_option maxRecDepth 100000 in
theorem awake38_any (w : World) :
    Calls Try.prog 11 #[] w fun e w' => e = .returned (.bool true) ∧ Below w.heap.size w w' := by
  have HC := Lib.hid (fun w => chat_any ⟨#[97, 34, 98]⟩ true w (by decide))
  have e : chatV (⟨#[97, 34, 98]⟩ : ByteArray).data.toList true = _ := chatV_ex
  rw [e] at HC
  clear e
  go_enter Try.func11, Try.ntmps11
  go_wp2_with fail
  refine (HC.out _).mono ?_
  rintro e w2 ⟨rfl, b2⟩
  go_wp2_with fail
  go_ret
  exact ⟨rfl, b2⟩
theorem chatV_parts (t : List UInt8) (b : Bool) : ∃ (x : ByteArray) (c : Int), chatV t b = .tuple #[.string x, .int .i64 c] := by
  unfold chatV; split <;> exact ⟨_, _, rfl⟩
set_option maxRecDepth 100000 in
set_option maxHeartbeats 1000000 in
theorem lawBuilds (s : ByteArray) (b : Bool) (w : World) (hs : s.size ≤ 9223372036854775807) :
    Calls Try.prog 3 #[.string s, .bool b] w fun e w' => e = .returned (.bool true) ∧ Below w.heap.size w w' := by
  have hz := few38_size s
  have HF := Lib.hid (fun w => few38_any s w hs)
  generalize few38 s = t at *
  have HN := Lib.hid (fun w => chat_any t b w (by omega))
  have HR := Lib.hid (fun w => rchat_any t b w (by omega))
  have HI := Lib.hid (fun w => fits_any t b w (by omega))
  obtain ⟨x, c, hv⟩ := chatV_parts t.data.toList b
  rw [hv] at HN HR
  rw [decide_eq_true (by omega)] at HI
  clear hv hz
  have g1 : (x.toList == x.toList) = true := by simp
  have g2 : (c == c) = true := by simp
  go_enter Try.func3, Try.ntmps3
  go_wp2_with fail
  refine (HF.out _).mono ?_
  rintro e w2 ⟨rfl, rfl⟩
  go_wp2_with fail
  refine (HN.out _).mono ?_
  rintro e w3 ⟨rfl, b3⟩
  have hP := Blk.new w 24 #[.string t, .bool b]
  have hB := (Below.refl w.heap.size w).alloc (Nat.le_refl _) (.cells #[.string t, .bool b] 24)
  have hP3 := hP.below b3 hP.lt
  have hB3 := hB.trans (b3.mono hB.size)
  clear hP hB b3
  have c0 := hP3.cell 0
  have c1 := hP3.cell 1
  go_wp2_with fail
  refine (HR.out _).mono ?_
  rintro e w4 ⟨rfl, b4⟩
  have hP4 := hP3.below b4 hP3.lt
  have hB4 := hB3.trans (b4.mono hB3.size)
  clear hP3 hB3 b4 c0 c1
  have c0 := hP4.cell 0
  have c1 := hP4.cell 1
  go_wp2_with fail
  refine (HI.out _).mono ?_
  rintro e w5 ⟨rfl, b5⟩
  have hB5 := hB4.trans (b5.mono hB4.size)
  clear c0 c1
  go_wp2_with fail
  refine (awake38_any _).mono ?_
  rintro e w6 ⟨rfl, b6⟩
  go_wp2_with fail
  go_ret
  exact ⟨rfl, hB5.trans (b6.mono hB5.size)⟩
end Go.Proofs.Ytdmlciebkilmjaa
