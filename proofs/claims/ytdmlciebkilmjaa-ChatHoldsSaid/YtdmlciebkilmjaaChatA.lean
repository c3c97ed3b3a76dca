/- Walks: a text cut; a post written (both layers). -/
import Derived.Test.YtdmlciebkilmjaaQuoG
import Derived.Test.YtdmlciebkilmjaaQuoI
import Derived.Test.YtdmlciebkilmjaaUtfL
namespace Go.Proofs.Ytdmlciebkilmjaa
open Go.RowKit
set_option linter.unusedVariables false
set_option linter.unusedSimpArgs false
theorem below_drew {w w' : World} (h : Below w.drew.heap.size w.drew w') : Below w.heap.size w w' := ⟨h.os, h.tape, h.output, h.size, h.block⟩
theorem strOf_toL (l : List UInt8) : (strOf l).toList = l := by rw [ByteArray.toList_eq, strOf_list]
/-- A text's beginning, so long. -/
def cutL (l : List UInt8) (m : Nat) : List UInt8 := if l.length ≤ m then l else l.take (front l ((m : Int) - 3)) ++ [226, 128, 166]
def cutB (l : List UInt8) (m : Nat) : Bool := decide (¬ l.length ≤ m)
theorem short_no (s : ByteArray) (m : Nat) (w : World) (hs : s.size ≤ 60000) (hm : 3 ≤ m) (h : ¬ s.size ≤ m) :
    Calls Try.prog 38 #[.string s, .int .i64 m] w fun e w' => e = .returned (.tuple #[.string ⟨#[]⟩, .bool false, .bool false]) ∧ w = w' := by
  go_enter Try.func38, Try.ntmps38
  go_wp2
  go_ret3
  exact ⟨rfl, rfl⟩
theorem pcut_any (s : ByteArray) (m : Nat) (w : World) (hs : s.size ≤ 60000) (hm : 3 ≤ m) (hm2 : m ≤ 60000) :
    Calls Try.prog 19 #[.string s, .int .i64 m] w fun e w' => e = .returned (.tuple #[.string (strOf (cutL s.data.toList m)), .bool (cutB s.data.toList m)]) ∧ Below w.heap.size w w' := by
  have hl := sz_len s
  have HF := Lib.hid (fun w => front_any s ((m : Int) - 3) w hs (by omega))
  have HA := Lib.hid (strOf_append (s.data.toList.take (front s.data.toList ((m : Int) - 3))) [226, 128, 166])
  have hz : (strOf (s.data.toList.take (front s.data.toList ((m : Int) - 3)))).size ≤ 60000 := by rw [strOf_size, List.length_take]; omega
  by_cases h : s.size ≤ m
  · have HV : Hid (cutL s.data.toList m = s.data.toList ∧ cutB s.data.toList m = false) := ⟨by unfold cutL; rw [if_pos (by omega)], by unfold cutB; exact decide_eq_false (by omega)⟩
    have HD := Lib.hid (strOf_data s)
    clear HF HA hz hl
    go_enter Try.func19, Try.ntmps19
    go_wp2
    go_ret2
    exact ⟨by rw [HV.out.1, HV.out.2, HD.out]; rfl, Below.refl _ _⟩
  · have HV : Hid (cutL s.data.toList m = s.data.toList.take (front s.data.toList ((m : Int) - 3)) ++ [226, 128, 166] ∧ cutB s.data.toList m = true) :=
      ⟨by unfold cutL; rw [if_neg (by omega)], by unfold cutB; exact decide_eq_true (by omega)⟩
    have HS := Lib.hid (fun w => short_no s m w hs hm h)
    clear hl
    generalize strOf (s.data.toList.take (front s.data.toList ((m : Int) - 3))) = x at *
    go_enter Try.func19, Try.ntmps19
    go_wp2_with fail
    refine (HS.out _).mono ?_
    rintro e w2 ⟨rfl, rfl⟩
    go_wp2_with fail
    refine (HF.out _).mono ?_
    rintro e w2 ⟨rfl, b2⟩
    go_wp2_with fail
    go_ret2
    exact ⟨by rw [HV.out.1, HV.out.2, ← HA.out]; rfl, b2⟩
theorem mark_any (w : World) : Calls Try.prog 32 #[] w fun e w' => e = .returned (.string (strOf [226, 128, 166])) ∧ Below w.heap.size w w' := by
  have HB := Lib.hid (fun w => rbytes_any 8230 w)
  have e : enc 8230 = [226, 128, 166] := by decide
  rw [e] at HB
  clear e
  go_enter Try.func32, Try.ntmps32
  go_wp2_with fail
  refine (HB.out _).mono ?_
  rintro e w2 ⟨rfl, b2⟩
  go_wp2_with fail
  go_ret
  exact ⟨rfl, b2⟩
theorem rcut_any (s : ByteArray) (m : Nat) (w : World) (hs : s.size ≤ 60000) (hm : 3 ≤ m) (hm2 : m ≤ 60000) :
    Calls Try.prog 17 #[.string s, .int .i64 m] w fun e w' => e = .returned (.tuple #[.string (strOf (cutL s.data.toList m)), .bool (cutB s.data.toList m)]) ∧ Below w.heap.size w w' := by
  have hl := sz_len s
  have HF := Lib.hid (fun w => rfront_any s ((m : Int) - 3) w (by omega) (by omega))
  have HM := Lib.hid (fun w => mark_any w)
  have HA := Lib.hid (strOf_append (s.data.toList.take (front s.data.toList ((m : Int) - 3))) [226, 128, 166])
  have hz : (strOf (s.data.toList.take (front s.data.toList ((m : Int) - 3)))).size ≤ 60000 := by rw [strOf_size, List.length_take]; omega
  have hz2 : (strOf [226, 128, 166]).size = 3 := rfl
  by_cases h : s.size ≤ m
  · have HV : Hid (cutL s.data.toList m = s.data.toList ∧ cutB s.data.toList m = false) := ⟨by unfold cutL; rw [if_pos (by omega)], by unfold cutB; exact decide_eq_false (by omega)⟩
    have HD := Lib.hid (strOf_data s)
    clear HF HA hz hl hz2
    go_enter Try.func17, Try.ntmps17
    go_wp2
    go_ret2
    exact ⟨by rw [HV.out.1, HV.out.2, HD.out]; rfl, Below.refl _ _⟩
  · have HV : Hid (cutL s.data.toList m = s.data.toList.take (front s.data.toList ((m : Int) - 3)) ++ [226, 128, 166] ∧ cutB s.data.toList m = true) :=
      ⟨by unfold cutL; rw [if_neg (by omega)], by unfold cutB; exact decide_eq_true (by omega)⟩
    clear hl
    generalize strOf (s.data.toList.take (front s.data.toList ((m : Int) - 3))) = x at *
    generalize strOf [226, 128, 166] = y at *
    go_enter Try.func17, Try.ntmps17
    go_wp2_with fail
    refine (HF.out _).mono ?_
    rintro e w2 ⟨rfl, b2⟩
    go_wp2_with fail
    refine (HM.out _).mono ?_
    rintro e w3 ⟨rfl, b3⟩
    go_wp2_with fail
    go_ret2
    exact ⟨by rw [HV.out.1, HV.out.2, ← HA.out]; rfl, b2.trans (b3.mono b2.size)⟩
def preC : List UInt8 := [123, 34, 116, 101, 120, 116, 34, 58, 34]
def endC (b : Bool) : List UInt8 := if b then [34, 44, 34, 108, 111, 117, 100, 34, 58, 116, 114, 117, 101, 125] else [34, 44, 34, 108, 111, 117, 100, 34, 58, 102, 97, 108, 115, 101, 125]
theorem around_0 (w : World) : Calls Try.prog 20 #[.int .i64 0] w fun e w' => e = .returned (.string (strOf preC)) ∧ w = w' := by
  go_enter Try.func20, Try.ntmps20
  go_wp2
  go_ret
  exact ⟨rfl, rfl⟩
theorem around_1 (w : World) : Calls Try.prog 20 #[.int .i64 1] w fun e w' => e = .returned (.string (strOf (endC true))) ∧ w = w' := by
  go_enter Try.func20, Try.ntmps20
  go_wp2
  go_ret
  exact ⟨rfl, rfl⟩
theorem around_2 (w : World) : Calls Try.prog 20 #[.int .i64 2] w fun e w' => e = .returned (.string (strOf (endC false))) ∧ w = w' := by
  go_enter Try.func20, Try.ntmps20
  go_wp2
  go_ret
  exact ⟨rfl, rfl⟩
/-- A post, written. -/
def chatL (t : List UInt8) (b : Bool) : List UInt8 := preC ++ writeJ (cutL t 4000) ++ endC b
def chatV (t : List UInt8) (b : Bool) : Value := if clean t = t then .tuple #[.string (strOf (chatL t b)), .int .i64 0] else .tuple #[.string ⟨#[]⟩, .int .i64 7]
set_option maxRecDepth 100000 in
set_option maxHeartbeats 1000000 in
theorem chat_bad (t : ByteArray) (b : Bool) (w : World) (hs : t.size ≤ 60000) (hc : clean t.data.toList ≠ t.data.toList) :
    Calls Try.prog 8 #[.agg #[.string t, .bool b]] w fun e w' => e = .returned (chatV t.data.toList b) ∧ Below w.heap.size w w' := by
  have HV : Hid (chatV t.data.toList b = .tuple #[.string ⟨#[]⟩, .int .i64 7]) := by show _ = _; unfold chatV; rw [if_neg hc]
  have HC := Lib.hid (fun w => clean_any t w hs)
  have hq : ((strOf (clean t.data.toList)).toList == t.toList) = false := by
    rw [strOf_toL]
    simp only [beq_eq_false_iff_ne, ne_eq]
    intro h; apply hc; rw [h, ByteArray.toList_eq]
  clear hc
  generalize strOf (clean t.data.toList) = x at *
  go_enter Try.func8, Try.ntmps8
  go_wp2_with fail
  have hP := Blk.new w 24 #[.string t, .bool b]
  have hB := (Below.refl w.heap.size w).alloc (Nat.le_refl _) (.cells #[.string t, .bool b] 24)
  have hlt := hP.lt
  generalize hW : w.alloc (.cells #[.string t, .bool b] 24) = w0 at *
  have c0 := hP.cell 0
  go_region_held3 (fun w' => w'.cell? ⟨w.heap.size, 0, none⟩ = some (.string t)) (first | exact hP.cell 0 | exact (hP.drew).cell 0 | exact ((hP.drew).below b2 hlt).cell 0) ((go_at_call 18; refine (HC.out _).mono ?_; rintro e w2 ⟨rfl, b2⟩))
  go_wp2_with fail
  go_ret2
  exact ⟨by rw [HV.out]; rfl, hB.trans ((below_drew b2).mono hB.size)⟩
theorem cutL_length (l : List UInt8) (m : Nat) (hm : 3 ≤ m) : (cutL l m).length ≤ m := by
  unfold cutL
  split
  · assumption
  · rw [List.length_append, List.length_take]
    have := (front_le _ l ((m : Int) - 3) (Nat.le_refl _)).2
    simp only [List.length_cons, List.length_nil]
    omega
set_option maxRecDepth 100000 in
set_option maxHeartbeats 1000000 in
theorem chat_ok (t : ByteArray) (b : Bool) (w : World) (hs : t.size ≤ 60000) (hc : clean t.data.toList = t.data.toList) :
    Calls Try.prog 8 #[.agg #[.string t, .bool b]] w fun e w' => e = .returned (chatV t.data.toList b) ∧ Below w.heap.size w w' := by
  have HV : Hid (∀ x : ByteArray, x = strOf preC ++ strOf (writeJ (cutL t.data.toList 4000)) ++ strOf (endC b) → Ending.returned (.tuple #[.string x, .int .i64 0]) = .returned (chatV t.data.toList b)) := by
    intro x hx; unfold chatV chatL; rw [if_pos hc, hx, strOf_append, strOf_append]
  have HC := Lib.hid (fun w => clean_any t w hs)
  have HT := Lib.hid (fun w => pcut_any t 4000 w hs (by omega) (by omega))
  have hl4 := cutL_length t.data.toList 4000 (by omega)
  have hw4 := write_length (cutL t.data.toList 4000)
  have HW := Lib.hid (fun w => write_any (strOf (cutL t.data.toList 4000)) w (by rw [strOf_size]; omega))
  rw [strOf_list] at HW
  have hz1 : (strOf (writeJ (cutL t.data.toList 4000))).size ≤ 24000 := by rw [strOf_size]; omega
  rw [hc, strOf_data] at HC
  have hq : (t.toList != t.toList) = false := by simp
  have hz2 : (strOf preC).size = 9 := rfl
  have hz3 : (strOf (endC true)).size = 14 := rfl
  have hz4 : (strOf (endC false)).size = 15 := rfl
  clear hc hl4 hw4
  generalize cutB t.data.toList 4000 = cb at *
  generalize strOf (cutL t.data.toList 4000) = x at *
  generalize strOf (writeJ (cutL t.data.toList 4000)) = y at *
  have A0 := Lib.hid around_0
  have A1 := Lib.hid around_1
  have A2 := Lib.hid around_2
  generalize strOf preC = p0 at *
  obtain ⟨p1, hp1⟩ : ∃ p, strOf (endC true) = p := ⟨_, rfl⟩
  obtain ⟨p2, hp2⟩ : ∃ p, strOf (endC false) = p := ⟨_, rfl⟩
  rw [hp1] at A1 hz3
  rw [hp2] at A2 hz4
  have E1 := Lib.hid hp1
  have E2 := Lib.hid hp2
  clear hp1 hp2
  go_enter Try.func8, Try.ntmps8
  go_wp2_with fail
  have hP := Blk.new w 24 #[.string t, .bool b]
  have hB := (Below.refl w.heap.size w).alloc (Nat.le_refl _) (.cells #[.string t, .bool b] 24)
  have hlt := hP.lt
  generalize hW : w.alloc (.cells #[.string t, .bool b] 24) = w0 at *
  have c0 := hP.cell 0
  go_region_held3 (fun w' => w'.cell? ⟨w.heap.size, 0, none⟩ = some (.string t)) (first | exact hP.cell 0 | exact (hP.drew).cell 0 | exact ((hP.drew).below b2 hlt).cell 0) ((go_at_call 18; refine (HC.out _).mono ?_; rintro e w2 ⟨rfl, b2⟩))
  have hP2 := (hP.drew).below b2 hlt
  have hB2 := hB.trans ((below_drew b2).mono hB.size)
  have hlt2 := hP2.lt
  clear c0
  have c0 := hP2.cell 0
  clear hP hB b2 hlt
  go_wp2_with fail
  refine (HT.out _).mono ?_
  rintro e w3 ⟨rfl, b3⟩
  have hP3 := hP2.below b3 hlt2
  have hB3 := hB2.trans (b3.mono hB2.size)
  clear c0
  have c1 := hP3.cell 1
  clear hP2 hB2 b3
  cases b
  all_goals
    go_wp2_with fail
    refine (A0.out _).mono ?_
    rintro e w' ⟨rfl, rfl⟩
    go_wp2_with fail
    refine (HW.out _).mono ?_
    rintro e w4 ⟨rfl, b4⟩
    go_wp2_with fail
    first | refine (A1.out _).mono ?_ | refine (A2.out _).mono ?_
    rintro e w' ⟨rfl, rfl⟩
    go_wp2_with fail
    go_ret2
    exact ⟨HV.out _ (by first | rw [E1.out] | rw [E2.out]), hB3.trans (b4.mono hB3.size)⟩
theorem chat_any (t : ByteArray) (b : Bool) (w : World) (hs : t.size ≤ 60000) :
    Calls Try.prog 8 #[.agg #[.string t, .bool b]] w fun e w' => e = .returned (chatV t.data.toList b) ∧ Below w.heap.size w w' := by
  by_cases h : clean t.data.toList = t.data.toList
  · exact chat_ok t b w hs h
  · exact chat_bad t b w hs h
end Go.Proofs.Ytdmlciebkilmjaa
