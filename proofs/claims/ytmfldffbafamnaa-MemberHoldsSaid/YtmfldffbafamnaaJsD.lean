/- Walks: the document's token at a place: words and numbers (chapter 10). -/
import Derived.Test.YtmfldffbafamnaaJsC
namespace Go.Proofs.Ytmfldffbafamnaa
open Go.RowKit
set_option linter.unusedVariables false
set_option linter.unusedSimpArgs false
theorem below_drew' {B : Nat} {a w : World} (h : Below B a w) : Below B a w.drew := ⟨h.os, h.tape, h.output, h.size, h.block⟩
def wdJ (j : Nat) : List UInt8 := if j = 0 then tTrue else if j = 1 then tFalse else tNull
def wordsC : Array Value := #[.string (strOf tTrue), .string (strOf tFalse), .string (strOf tNull)]
theorem wdJ_cell {w : World} {g j : Nat} {t : TypeId} (h : Blk w g t wordsC) (hj : j < 3) : w.cell? ⟨g, j, none⟩ = some (.string (strOf (wdJ j))) := by
  rw [h.cell]
  have : j = 0 ∨ j = 1 ∨ j = 2 := by omega
  rcases this with rfl | rfl | rfl <;> rfl
theorem wdJ_len (j : Nat) : (wdJ j).length ≤ 5 := by
  unfold wdJ
  split
  · decide
  split <;> decide
theorem one_word {l : List UInt8} {k j : Nat} (hm : ¬ markK (bt l k)) (h34 : bt l k ≠ 34) (hj : j < 3) (h : atL l (wdJ j) k = true) (hno : ∀ i, i < j → atL l (wdJ i) k = false) :
    oneT l k = some ⟨97, wdJ j, k, k + (wdJ j).length⟩ := by
  unfold oneT
  rw [if_neg hm, if_neg h34]
  have : j = 0 ∨ j = 1 ∨ j = 2 := by omega
  rcases this with rfl | rfl | rfl
  · have h : atL l tTrue k = true := h
    rw [if_pos h]; rfl
  · have h0 : atL l tTrue k = false := hno 0 (by omega)
    have h : atL l tFalse k = true := h
    rw [h0, if_neg (by simp), if_pos h]; rfl
  · have h0 : atL l tTrue k = false := hno 0 (by omega)
    have h1 : atL l tFalse k = false := hno 1 (by omega)
    have h : atL l tNull k = true := h
    rw [h0, if_neg (by simp), h1, if_neg (by simp), if_pos h]; rfl
theorem one_num {l : List UInt8} {k : Nat} (hm : ¬ markK (bt l k)) (h34 : bt l k ≠ 34) (hno : ∀ i, i < 3 → atL l (wdJ i) k = false) :
    oneT l k = match numE l k with | none => none | some e => some ⟨48, (l.drop k).take (e - k), k, e⟩ := by
  unfold oneT
  have h0 : atL l tTrue k = false := hno 0 (by omega)
  have h1 : atL l tFalse k = false := hno 1 (by omega)
  have h2 : atL l tNull k = false := hno 2 (by omega)
  rw [if_neg hm, if_neg h34, h0, if_neg (by simp), h1, if_neg (by simp), h2, if_neg (by simp)]
  rfl
set_option maxRecDepth 100000 in
set_option maxHeartbeats 4000000 in
theorem rone_rest (s : ByteArray) (k : Nat) (w : World) (hs : s.size ≤ 1000000) (hk : k < s.size) (hm : ¬ markK (bt s.data.toList k)) (h34 : bt s.data.toList k ≠ 34) :
    Calls Try.prog 34 #[.string s, .int .i64 k] w fun e w' => OneR (oneT s.data.toList k) e ∧ Below w.heap.size w w' := by
  have hx := bt_byte s k hk
  have y0 := bt_lt s.data.toList k
  obtain ⟨m1, m2, m3, m4, m5, m6⟩ := not_mark hm
  have m7 : ((bt s.data.toList k : Int) == 34) = false := by simp; omega
  have HW := Lib.hid (fun j => one_word (l := s.data.toList) (k := k) (j := j) hm h34)
  have HNm := Lib.hid (one_num (l := s.data.toList) (k := k) hm h34)
  have HB := Lib.hid (fun j w b hb => rword_at s (wdJ j) k b w hs (by have := wdJ_len j; omega) hb)
  have HNu := Lib.hid (fun w => rnumber_any s k w hs hk)
  have HBD : Hid (∀ e, numE s.data.toList k = some e → k < e ∧ e ≤ s.size) := fun e h => by
    have := numE_bd (by rw [← sz_len]; exact hk) h
    rwa [← sz_len] at this
  have HEX := Lib.hid (fun e h => ext_eq s k e h)
  clear hm h34
  generalize bt s.data.toList k = c at *
  go_enter Try.func34, Try.ntmps34
  go_wp2_with fail
  obtain ⟨W0, hW0⟩ : ∃ W0, (w.alloc (.cells #[.int .u8 0, .string ⟨#[]⟩, .int .i64 0, .int .i64 0] 49)).alloc (.cells wordsC 9) = W0 := ⟨_, rfl⟩
  have hT : Blk W0 w.heap.size 49 #[.int .u8 0, .string ⟨#[]⟩, .int .i64 0, .int .i64 0] := by rw [← hW0]; exact (Blk.new w _ _).alloc _
  have hG : Blk W0 (w.heap.size + 1) 9 wordsC := by
    have := Blk.new (w.alloc (.cells #[.int .u8 0, .string ⟨#[]⟩, .int .i64 0, .int .i64 0] 49)) 9 wordsC
    rw [World.size_alloc, hW0] at this
    exact this
  have hB : Below w.heap.size w W0 := by rw [← hW0]; exact ((Below.refl w.heap.size w).alloc (Nat.le_refl _) _).alloc (by simp) _
  have hW1 : (w.alloc (.cells #[.int .u8 0, .string ⟨#[]⟩, .int .i64 0, .int .i64 0] 49)).alloc (.cells #[.string ⟨#[116, 114, 117, 101]⟩, .string ⟨#[102, 97, 108, 115, 101]⟩, .string ⟨#[110, 117, 108, 108]⟩] 9) = W0 := hW0
  rw [hW1]
  clear hW0 hW1 hx m1 m2 m3 m4 m5 m6 m7 y0
  have HT := Lib.hid hT
  have HG := Lib.hid hG
  have HBl := Lib.hid hB
  clear hT hG hB
  have f0 := HT.out.frozen 0
  have f1 := HT.out.frozen 1
  have f2 := HT.out.frozen 2
  have f3 := HT.out.frozen 3
  go_loop [10] (fun i => ∃ j : Nat, j ≤ 3 ∧ i = .int .i64 j ∧ ∀ i, i < j → atL s.data.toList (wdJ i) k = false) (fun i => 3 - (intOf i).toNat)
  case atStart => exact ⟨0, by omega, rfl, fun i h => by omega⟩
  case round =>
    obtain ⟨j, hj, rfl, hno⟩ := hrel
    have HN := Lib.hid hno
    clear hno
    have c0 := HT.out.cell 0
    have c1 := HT.out.cell 1
    have c2 := HT.out.cell 2
    have c3 := HT.out.cell 3
    by_cases hlt : j < 3
    · have hc := wdJ_cell HG.out hlt
      cases hb : atL s.data.toList (wdJ j) k with
      | true =>
        have HV := Lib.hid (HW.out j hlt hb HN.out)
        have HBj := Lib.hid (fun w => HB.out j w true hb)
        have hz := strOf_size (wdJ j)
        have hzl := wdJ_len j
        have HZ := Lib.hid hz
        have hsz : (strOf (wdJ j)).size ≤ 5 := by omega
        clear hb hz hzl
        generalize hww : strOf (wdJ j) = ww at *
        have HWW := Lib.hid hww
        clear hww
        go_wp2_with fail
        refine (HBj.out _).mono ?_
        rintro e w' ⟨rfl, rfl⟩
        go_wp2_with fail
        have e1 : IntKind.i64.wrap ((k : Int) + ww.size) = (k : Int) + ww.size := IntWalk.i64_in _ (by omega)
        go_still_tail 13, (by kernel_rfl)
        change wpList _ _ _ _ _ W0.drew
        clear e1
        have hTd : Blk W0.drew w.heap.size 49 #[.int .u8 0, .string ⟨#[]⟩, .int .i64 0, .int .i64 0] := HT.out.drew
        have hBd : Below w.heap.size w W0.drew := below_drew' HBl.out
        clear c0 c1 c2 c3 f0 f1 f2 f3 hc
        generalize W0.drew = W1 at *
        have c0 := hTd.cell 0
        have c1 := hTd.cell 1
        have c2 := hTd.cell 2
        have c3 := hTd.cell 3
        have f0 := hTd.frozen 0
        have f1 := hTd.frozen 1
        have f2 := hTd.frozen 2
        have f3 := hTd.frozen 3
        go_wp2_with fail
        have hF := (((hTd.set_ 0 (.int .u8 97)).set_ 1 (.string ww)).set_ 2 (.int .i64 k)).set_ 3 (.int .i64 ((k : Int) + ww.size))
        have s0 : (World.setCell _ _ _).cell? _ = some (.int .u8 97) := hF.cell 0
        have s1 : (World.setCell _ _ _).cell? _ = some (.string ww) := hF.cell 1
        have s2 : (World.setCell _ _ _).cell? _ = some (.int .i64 k) := hF.cell 2
        have s3 : (World.setCell _ _ _).cell? _ = some (.int .i64 ((k : Int) + ww.size)) := hF.cell 3
        exact bodyPost_ret (v := .tuple #[.agg #[.int .u8 97, .string ww, .int .i64 k, .int .i64 ((k : Int) + ww.size)], .bool true]) (by simp [results, Try.f34, go_sem, s0, s1, s2, s3]) rfl ⟨by rw [HV.out]; show _ = Ending.returned (.tuple #[.agg #[.int .u8 97, .string (strOf (wdJ j)), .int .i64 k, .int .i64 ((k + (wdJ j).length : Nat) : Int)], .bool true]); rw [HWW.out, ← HZ.out]; rfl, (((hBd.setCell (p := ⟨w.heap.size, 0, none⟩) (Nat.le_refl _) _).setCell (p := ⟨w.heap.size, 1, none⟩) (Nat.le_refl _) _).setCell (p := ⟨w.heap.size, 2, none⟩) (Nat.le_refl _) _).setCell (p := ⟨w.heap.size, 3, none⟩) (Nat.le_refl _) _⟩
      | false =>
        have HBj := Lib.hid (fun w => HB.out j w false hb)
        have HT2 := Lib.hid hb
        clear hb
        go_wp2_with fail
        refine (HBj.out _).mono ?_
        rintro e w' ⟨rfl, rfl⟩
        go_wp2_with fail
        go_round
        case rel => exact ⟨j + 1, by omega, by go_num, fun i hi => by rcases Nat.lt_succ_iff_lt_or_eq.1 hi with h | rfl; exact HN.out i h; exact HT2.out⟩
        case measure => simp [intOf]; omega
    · obtain rfl : j = 3 := by omega
      have HV := Lib.hid (HNm.out HN.out)
      clear hlt hj HN HW HB
      cases hn : numE s.data.toList k with
      | none =>
        have HF : Hid (OneR (oneT s.data.toList k) (.returned (.tuple #[.agg #[.int .u8 0, .string ⟨#[]⟩, .int .i64 0, .int .i64 0], .bool false]))) := by
          show OneR _ _; rw [HV.out, hn]; exact ⟨_, _, _, _, rfl⟩
        rw [hn] at HNu
        unfold numI at HNu
        dsimp only at HNu
        clear hn HV
        go_wp2_with fail
        refine (HNu.out _).mono ?_
        rintro e w' ⟨rfl, rfl⟩
        go_wp2_with fail
        have hF := (((HT.out.set_ 0 (.int .u8 0)).set_ 1 (.string ⟨#[]⟩)).set_ 2 (.int .i64 0)).set_ 3 (.int .i64 0)
        have s0 : (World.setCell _ _ _).cell? _ = some (.int .u8 0) := hF.cell 0
        have s1 : (World.setCell _ _ _).cell? _ = some (.string ⟨#[]⟩) := hF.cell 1
        have s2 : (World.setCell _ _ _).cell? _ = some (.int .i64 0) := hF.cell 2
        have s3 : (World.setCell _ _ _).cell? _ = some (.int .i64 0) := hF.cell 3
        exact bodyPost_ret (v := .tuple #[.agg #[.int .u8 0, .string ⟨#[]⟩, .int .i64 0, .int .i64 0], .bool false]) (by simp [results, Try.f34, go_sem, s0, s1, s2, s3]) rfl ⟨HF.out, (((HBl.out.setCell (p := ⟨w.heap.size, 0, none⟩) (Nat.le_refl _) _).setCell (p := ⟨w.heap.size, 1, none⟩) (Nat.le_refl _) _).setCell (p := ⟨w.heap.size, 2, none⟩) (Nat.le_refl _) _).setCell (p := ⟨w.heap.size, 3, none⟩) (Nat.le_refl _) _⟩
      | some e =>
        obtain ⟨hb1, hb2⟩ := HBD.out e hn
        have HF : Hid (OneR (oneT s.data.toList k) (.returned (.tuple #[.agg #[.int .u8 48, .string (s.extract k e), .int .i64 k, .int .i64 e], .bool true]))) := by
          show OneR _ _; rw [HV.out, hn, ← HEX.out e hb2]; rfl
        rw [hn] at HNu
        unfold numI at HNu
        dsimp only at HNu
        clear hn HV
        go_wp2_with fail
        refine (HNu.out _).mono ?_
        rintro e w' ⟨rfl, rfl⟩
        go_wp2_with fail
        have hF := (((HT.out.set_ 0 (.int .u8 48)).set_ 1 (.string (s.extract k e))).set_ 2 (.int .i64 k)).set_ 3 (.int .i64 e)
        have s0 : (World.setCell _ _ _).cell? _ = some (.int .u8 48) := hF.cell 0
        have s1 : (World.setCell _ _ _).cell? _ = some (.string (s.extract k e)) := hF.cell 1
        have s2 : (World.setCell _ _ _).cell? _ = some (.int .i64 k) := hF.cell 2
        have s3 : (World.setCell _ _ _).cell? _ = some (.int .i64 e) := hF.cell 3
        exact bodyPost_ret (v := .tuple #[.agg #[.int .u8 48, .string (s.extract k e), .int .i64 k, .int .i64 e], .bool true]) (by simp [results, Try.f34, go_sem, s0, s1, s2, s3]) rfl ⟨HF.out, (((HBl.out.setCell (p := ⟨w.heap.size, 0, none⟩) (Nat.le_refl _) _).setCell (p := ⟨w.heap.size, 1, none⟩) (Nat.le_refl _) _).setCell (p := ⟨w.heap.size, 2, none⟩) (Nat.le_refl _) _).setCell (p := ⟨w.heap.size, 3, none⟩) (Nat.le_refl _) _⟩
/-- The document's token at any place of a text. -/
theorem rone10_any (s : ByteArray) (k : Nat) (w : World) (hs : s.size ≤ 1000000) (hk : k < s.size) :
    Calls Try.prog 34 #[.string s, .int .i64 k] w fun e w' => OneR (oneT s.data.toList k) e ∧ Below w.heap.size w w' := by
  by_cases hm : markK (bt s.data.toList k)
  · exact rone_mark s k w hs hk hm
  · by_cases h34 : bt s.data.toList k = 34
    · exact rone_str s k w hs hk h34
    · exact rone_rest s k w hs hk hm h34
end Go.Proofs.Ytmfldffbafamnaa
