/- Walks: the program's json reader: a word (chapter 10). -/
import Derived.Test.YtjnmcadfaombjaaJtH
import Derived.LoopN
import Derived.Handy
namespace Go.Proofs.Ytjnmcadfaombjaa
open Go.RowKit
set_option linter.unusedVariables false
set_option linter.unusedSimpArgs false
def wordTok (l : List UInt8) (k : Nat) : Option Tok :=
  if atL l tTrue k then some ⟨97, tTrue, k, k + 4⟩ else if atL l tFalse k then some ⟨97, tFalse, k, k + 5⟩ else if atL l tNull k then some ⟨97, tNull, k, k + 4⟩ else none
theorem pre_at (s p : ByteArray) (k : Nat) (hk : k ≤ s.size) : Lib.hasPrefix (s.extract k s.size).data.toList p.data.toList = atL s.data.toList p.data.toList k := by
  have hl := sz_len s
  rw [cut_str, strOf_list, List.take_of_length_le (by rw [List.length_drop]; omega)]
  unfold Lib.hasPrefix atL
  rw [decide_eq_true (show k ≤ s.data.toList.length by omega), Bool.true_and]
  by_cases h : (s.data.toList.drop k).take p.data.toList.length = p.data.toList
  · rw [decide_eq_true h]
    have h2 := List.take_prefix p.data.toList.length (s.data.toList.drop k)
    rw [h] at h2
    exact List.isPrefixOf_iff_prefix.2 h2
  · rw [decide_eq_false h, Bool.eq_false_iff]
    intro h2
    exact h (List.prefix_iff_eq_take.1 (List.isPrefixOf_iff_prefix.1 h2)).symm
theorem jprefix (s p : ByteArray) (k : Nat) (b : Bool) (hk : k ≤ s.size) (hb : atL s.data.toList p.data.toList k = b) (w : World) :
    Calls Try.prog 61 #[.string (s.extract k s.size), .string p] w fun e w' => e = .returned (.bool b) ∧ w = w' := by
  refine (Try.strings_HasPrefix _ _ w).mono fun e w' ⟨a, b⟩ => ⟨?_, b.symm⟩
  rw [a, pre_at s p k hk, hb]
theorem arr3_under : Try.prog.underlying 106 = some (.array 3 9) := by kernel_rfl
theorem arr3_cells : Try.prog.cellsOf 9 = 1 := by kernel_rfl
theorem index_arr3 (a b c : Value) (w : World) : (Instr.index 106 (.agg #[a, b, c]) (.int .i64 0)).run Try.prog w = .ok a w ∧ (Instr.index 106 (.agg #[a, b, c]) (.int .i64 1)).run Try.prog w = .ok b w ∧
    (Instr.index 106 (.agg #[a, b, c]) (.int .i64 2)).run Try.prog w = .ok c w := by
  refine ⟨?_, ?_, ?_⟩ <;> simp [Instr.index, run_underlying arr3_under, arr3_cells, asIntOf, go_sem]
set_option maxRecDepth 100000 in
set_option maxHeartbeats 4000000 in
theorem jword (g k : Nat) (s : ByteArray) (w : World) (hR : Rdr w g s k) (hk : k < s.size) (hs : s.size ≤ 1000000) :
    Calls Try.prog 40 #[.pointer (some ⟨g, 0, none⟩)] w fun e w' => TakR (wordTok s.data.toList k) g s e w' ∧ Only g w w' := by
  have hI := index_arr3
  have hgl := hR.lt
  have HT0 := Lib.hid (Blk.new w 31 #[.int .u8 0, .string ⟨#[]⟩, .int .i64 0, .int .i64 0])
  have HR0 := Lib.hid (hR.alloc (.cells #[.int .u8 0, .string ⟨#[]⟩, .int .i64 0, .int .i64 0] 31))
  have HO0 := Lib.hid ((Only.refl g w).alloc (.cells #[.int .u8 0, .string ⟨#[]⟩, .int .i64 0, .int .i64 0] 31))
  have HL := Lib.hid (sz_len s)
  have HP := Lib.hid (fun p b hb w => jprefix s p k b (Nat.le_of_lt hk) hb w)
  clear hR
  cases h0 : atL s.data.toList tTrue k
  · cases h1 : atL s.data.toList tFalse k
    · cases h2 : atL s.data.toList tNull k
      · have P0 := Lib.hid (HP.out ⟨#[116, 114, 117, 101]⟩ false h0)
        have P1 := Lib.hid (HP.out ⟨#[102, 97, 108, 115, 101]⟩ false h1)
        have P2 := Lib.hid (HP.out ⟨#[110, 117, 108, 108]⟩ false h2)
        have HV : Hid (wordTok s.data.toList k = none) := by
          show _ = _; unfold wordTok; rw [h0, if_neg (by simp), h1, if_neg (by simp), h2, if_neg (by simp)]
        clear HP h0 h1 h2
        go_enter Try.func40, Try.ntmps40
        go_upto_region 1 with fail
        generalize w.alloc (.cells #[.int .u8 0, .string ⟨#[]⟩, .int .i64 0, .int .i64 0] 31) = W0 at *
        have c0 := HR0.out.c0
        have c1 := HR0.out.c1
        have f1 := HR0.out.f1
        go_wp2_with fail
        refine wp_loop_rounds 4 ?_
        rw [rounds_succ]
        go_wp2_with fail
        refine (P0.out _).mono ?_
        rintro e w' ⟨rfl, rfl⟩
        go_wp2_with fail
        rw [rounds_succ]
        go_wp2_with fail
        refine (P1.out _).mono ?_
        rintro e w' ⟨rfl, rfl⟩
        go_wp2_with fail
        rw [rounds_succ]
        go_wp2_with fail
        refine (P2.out _).mono ?_
        rintro e w' ⟨rfl, rfl⟩
        go_wp2_with fail
        go_wp2_with fail
        rw [rounds_succ]
        have r0 := HT0.out.cell 0
        have f0 := HT0.out.frozen 0
        have r1 := HT0.out.cell 1
        have f1 := HT0.out.frozen 1
        have r2 := HT0.out.cell 2
        have f2 := HT0.out.frozen 2
        have r3 := HT0.out.cell 3
        have f3 := HT0.out.frozen 3
        go_wp2_with fail
        have hF := (((HT0.out.set_ 0 (.int .u8 0)).set_ 1 (.string ⟨#[]⟩)).set_ 2 (.int .i64 0)).set_ 3 (.int .i64 0)
        have s0 : (World.setCell _ _ _).cell? _ = some (.int .u8 0) := hF.cell 0
        have s1 : (World.setCell _ _ _).cell? _ = some (.string ⟨#[]⟩) := hF.cell 1
        have s2 : (World.setCell _ _ _).cell? _ = some (.int .i64 0) := hF.cell 2
        have s3 : (World.setCell _ _ _).cell? _ = some (.int .i64 0) := hF.cell 3
        exact bodyPost_ret (v := .tuple #[.agg #[.int .u8 0, .string ⟨#[]⟩, .int .i64 0, .int .i64 0], .bool false]) (by simp [results, Try.f40, go_sem, s0, s1, s2, s3]) rfl ⟨by rw [HV.out]; exact ⟨_, _, _, _, rfl⟩, (((HO0.out.far (p := ⟨w.heap.size, 0, none⟩) (Nat.le_refl _) _).far (p := ⟨w.heap.size, 1, none⟩) (Nat.le_refl _) _).far (p := ⟨w.heap.size, 2, none⟩) (Nat.le_refl _) _).far (p := ⟨w.heap.size, 3, none⟩) (Nat.le_refl _) _⟩
      · have P0 := Lib.hid (HP.out ⟨#[116, 114, 117, 101]⟩ false h0)
        have P1 := Lib.hid (HP.out ⟨#[102, 97, 108, 115, 101]⟩ false h1)
        have P2 := Lib.hid (HP.out ⟨#[110, 117, 108, 108]⟩ true h2)
        have hkl : k + 4 ≤ s.size := by
          have h := atL_len h2
          have e : tNull.length = 4 := rfl
          have := HL.out
          rcases h with h | h
          · omega
          · cases h
        have HV : Hid (wordTok s.data.toList k = some ⟨97, tNull, k, k + 4⟩) := by
          show _ = _; unfold wordTok; rw [h0, if_neg (by simp), h1, if_neg (by simp), h2, if_pos rfl]
        clear HP h0 h1 h2
        go_enter Try.func40, Try.ntmps40
        go_upto_region 1 with fail
        generalize w.alloc (.cells #[.int .u8 0, .string ⟨#[]⟩, .int .i64 0, .int .i64 0] 31) = W0 at *
        have c0 := HR0.out.c0
        have c1 := HR0.out.c1
        have f1 := HR0.out.f1
        go_wp2_with fail
        refine wp_loop_rounds 4 ?_
        rw [rounds_succ]
        go_wp2_with fail
        refine (P0.out _).mono ?_
        rintro e w' ⟨rfl, rfl⟩
        go_wp2_with fail
        rw [rounds_succ]
        go_wp2_with fail
        refine (P1.out _).mono ?_
        rintro e w' ⟨rfl, rfl⟩
        go_wp2_with fail
        rw [rounds_succ]
        go_wp2_with fail
        refine (P2.out _).mono ?_
        rintro e w' ⟨rfl, rfl⟩
        go_upto_region 7 with fail
        have hR9 : Rdr (W0.setCell ⟨g, 1, none⟩ (.int .i64 ((k : Int) + 4))) g s (k + 4) := HR0.out.set (k + 4)
        have hT9 := Blk.far HT0.out (p := ⟨g, 1, none⟩) (Nat.ne_of_gt hgl) (.int .i64 ((k : Int) + 4))
        have hO9 := HO0.out.set 1 (.int .i64 ((k : Int) + 4))
        clear HR0 HT0 HO0 c0 c1 f1
        generalize W0.setCell ⟨g, 1, none⟩ (.int .i64 ((k : Int) + 4)) = W9 at *
        have c1 : W9.cell? ⟨g, 1, none⟩ = some (.int .i64 ((k : Int) + 4)) := hR9.c1
        have r0 := hT9.cell 0
        have f0 := hT9.frozen 0
        have r1 := hT9.cell 1
        have f1 := hT9.frozen 1
        have r2 := hT9.cell 2
        have f2 := hT9.frozen 2
        have r3 := hT9.cell 3
        have f3 := hT9.frozen 3
        go_wp2_with fail
        have hF := (((hT9.set_ 0 (.int .u8 97)).set_ 1 (.string ⟨#[110, 117, 108, 108]⟩)).set_ 2 (.int .i64 k)).set_ 3 (.int .i64 ((k : Int) + 4))
        have s0 : (World.setCell _ _ _).cell? _ = some (.int .u8 97) := hF.cell 0
        have s1 : (World.setCell _ _ _).cell? _ = some (.string ⟨#[110, 117, 108, 108]⟩) := hF.cell 1
        have s2 : (World.setCell _ _ _).cell? _ = some (.int .i64 k) := hF.cell 2
        have s3 : (World.setCell _ _ _).cell? _ = some (.int .i64 ((k : Int) + 4)) := hF.cell 3
        exact bodyPost_ret (v := .tuple #[.agg #[.int .u8 97, .string ⟨#[110, 117, 108, 108]⟩, .int .i64 k, .int .i64 ((k : Int) + 4)], .bool true]) (by simp [results, Try.f40, go_sem, s0, s1, s2, s3]) rfl ⟨by rw [HV.out]; exact ⟨rfl, (((hR9.far (p := ⟨w.heap.size, 0, none⟩) (Nat.ne_of_lt hgl) _).far (p := ⟨w.heap.size, 1, none⟩) (Nat.ne_of_lt hgl) _).far (p := ⟨w.heap.size, 2, none⟩) (Nat.ne_of_lt hgl) _).far (p := ⟨w.heap.size, 3, none⟩) (Nat.ne_of_lt hgl) _⟩, (((hO9.far (p := ⟨w.heap.size, 0, none⟩) (Nat.le_refl _) _).far (p := ⟨w.heap.size, 1, none⟩) (Nat.le_refl _) _).far (p := ⟨w.heap.size, 2, none⟩) (Nat.le_refl _) _).far (p := ⟨w.heap.size, 3, none⟩) (Nat.le_refl _) _⟩
    · have P0 := Lib.hid (HP.out ⟨#[116, 114, 117, 101]⟩ false h0)
      have P1 := Lib.hid (HP.out ⟨#[102, 97, 108, 115, 101]⟩ true h1)
      have hkl : k + 5 ≤ s.size := by
        have h := atL_len h1
        have e : tFalse.length = 5 := rfl
        have := HL.out
        rcases h with h | h
        · omega
        · cases h
      have HV : Hid (wordTok s.data.toList k = some ⟨97, tFalse, k, k + 5⟩) := by
        show _ = _; unfold wordTok; rw [h0, if_neg (by simp), h1, if_pos rfl]
      clear HP h0 h1
      go_enter Try.func40, Try.ntmps40
      go_upto_region 1 with fail
      generalize w.alloc (.cells #[.int .u8 0, .string ⟨#[]⟩, .int .i64 0, .int .i64 0] 31) = W0 at *
      have c0 := HR0.out.c0
      have c1 := HR0.out.c1
      have f1 := HR0.out.f1
      go_wp2_with fail
      refine wp_loop_rounds 4 ?_
      rw [rounds_succ]
      go_wp2_with fail
      refine (P0.out _).mono ?_
      rintro e w' ⟨rfl, rfl⟩
      go_wp2_with fail
      rw [rounds_succ]
      go_wp2_with fail
      refine (P1.out _).mono ?_
      rintro e w' ⟨rfl, rfl⟩
      go_upto_region 7 with fail
      have hR9 : Rdr (W0.setCell ⟨g, 1, none⟩ (.int .i64 ((k : Int) + 5))) g s (k + 5) := HR0.out.set (k + 5)
      have hT9 := Blk.far HT0.out (p := ⟨g, 1, none⟩) (Nat.ne_of_gt hgl) (.int .i64 ((k : Int) + 5))
      have hO9 := HO0.out.set 1 (.int .i64 ((k : Int) + 5))
      clear HR0 HT0 HO0 c0 c1 f1
      generalize W0.setCell ⟨g, 1, none⟩ (.int .i64 ((k : Int) + 5)) = W9 at *
      have c1 : W9.cell? ⟨g, 1, none⟩ = some (.int .i64 ((k : Int) + 5)) := hR9.c1
      have r0 := hT9.cell 0
      have f0 := hT9.frozen 0
      have r1 := hT9.cell 1
      have f1 := hT9.frozen 1
      have r2 := hT9.cell 2
      have f2 := hT9.frozen 2
      have r3 := hT9.cell 3
      have f3 := hT9.frozen 3
      go_wp2_with fail
      have hF := (((hT9.set_ 0 (.int .u8 97)).set_ 1 (.string ⟨#[102, 97, 108, 115, 101]⟩)).set_ 2 (.int .i64 k)).set_ 3 (.int .i64 ((k : Int) + 5))
      have s0 : (World.setCell _ _ _).cell? _ = some (.int .u8 97) := hF.cell 0
      have s1 : (World.setCell _ _ _).cell? _ = some (.string ⟨#[102, 97, 108, 115, 101]⟩) := hF.cell 1
      have s2 : (World.setCell _ _ _).cell? _ = some (.int .i64 k) := hF.cell 2
      have s3 : (World.setCell _ _ _).cell? _ = some (.int .i64 ((k : Int) + 5)) := hF.cell 3
      exact bodyPost_ret (v := .tuple #[.agg #[.int .u8 97, .string ⟨#[102, 97, 108, 115, 101]⟩, .int .i64 k, .int .i64 ((k : Int) + 5)], .bool true]) (by simp [results, Try.f40, go_sem, s0, s1, s2, s3]) rfl ⟨by rw [HV.out]; exact ⟨rfl, (((hR9.far (p := ⟨w.heap.size, 0, none⟩) (Nat.ne_of_lt hgl) _).far (p := ⟨w.heap.size, 1, none⟩) (Nat.ne_of_lt hgl) _).far (p := ⟨w.heap.size, 2, none⟩) (Nat.ne_of_lt hgl) _).far (p := ⟨w.heap.size, 3, none⟩) (Nat.ne_of_lt hgl) _⟩, (((hO9.far (p := ⟨w.heap.size, 0, none⟩) (Nat.le_refl _) _).far (p := ⟨w.heap.size, 1, none⟩) (Nat.le_refl _) _).far (p := ⟨w.heap.size, 2, none⟩) (Nat.le_refl _) _).far (p := ⟨w.heap.size, 3, none⟩) (Nat.le_refl _) _⟩
  · have P0 := Lib.hid (HP.out ⟨#[116, 114, 117, 101]⟩ true h0)
    have hkl : k + 4 ≤ s.size := by
      have h := atL_len h0
      have e : tTrue.length = 4 := rfl
      have := HL.out
      rcases h with h | h
      · omega
      · cases h
    have HV : Hid (wordTok s.data.toList k = some ⟨97, tTrue, k, k + 4⟩) := by
      show _ = _; unfold wordTok; rw [h0, if_pos rfl]
    clear HP h0
    go_enter Try.func40, Try.ntmps40
    go_upto_region 1 with fail
    generalize w.alloc (.cells #[.int .u8 0, .string ⟨#[]⟩, .int .i64 0, .int .i64 0] 31) = W0 at *
    have c0 := HR0.out.c0
    have c1 := HR0.out.c1
    have f1 := HR0.out.f1
    go_wp2_with fail
    refine wp_loop_rounds 4 ?_
    rw [rounds_succ]
    go_wp2_with fail
    refine (P0.out _).mono ?_
    rintro e w' ⟨rfl, rfl⟩
    go_upto_region 7 with fail
    have hR9 : Rdr (W0.setCell ⟨g, 1, none⟩ (.int .i64 ((k : Int) + 4))) g s (k + 4) := HR0.out.set (k + 4)
    have hT9 := Blk.far HT0.out (p := ⟨g, 1, none⟩) (Nat.ne_of_gt hgl) (.int .i64 ((k : Int) + 4))
    have hO9 := HO0.out.set 1 (.int .i64 ((k : Int) + 4))
    clear HR0 HT0 HO0 c0 c1 f1
    generalize W0.setCell ⟨g, 1, none⟩ (.int .i64 ((k : Int) + 4)) = W9 at *
    have c1 : W9.cell? ⟨g, 1, none⟩ = some (.int .i64 ((k : Int) + 4)) := hR9.c1
    have r0 := hT9.cell 0
    have f0 := hT9.frozen 0
    have r1 := hT9.cell 1
    have f1 := hT9.frozen 1
    have r2 := hT9.cell 2
    have f2 := hT9.frozen 2
    have r3 := hT9.cell 3
    have f3 := hT9.frozen 3
    go_wp2_with fail
    have hF := (((hT9.set_ 0 (.int .u8 97)).set_ 1 (.string ⟨#[116, 114, 117, 101]⟩)).set_ 2 (.int .i64 k)).set_ 3 (.int .i64 ((k : Int) + 4))
    have s0 : (World.setCell _ _ _).cell? _ = some (.int .u8 97) := hF.cell 0
    have s1 : (World.setCell _ _ _).cell? _ = some (.string ⟨#[116, 114, 117, 101]⟩) := hF.cell 1
    have s2 : (World.setCell _ _ _).cell? _ = some (.int .i64 k) := hF.cell 2
    have s3 : (World.setCell _ _ _).cell? _ = some (.int .i64 ((k : Int) + 4)) := hF.cell 3
    exact bodyPost_ret (v := .tuple #[.agg #[.int .u8 97, .string ⟨#[116, 114, 117, 101]⟩, .int .i64 k, .int .i64 ((k : Int) + 4)], .bool true]) (by simp [results, Try.f40, go_sem, s0, s1, s2, s3]) rfl ⟨by rw [HV.out]; exact ⟨rfl, (((hR9.far (p := ⟨w.heap.size, 0, none⟩) (Nat.ne_of_lt hgl) _).far (p := ⟨w.heap.size, 1, none⟩) (Nat.ne_of_lt hgl) _).far (p := ⟨w.heap.size, 2, none⟩) (Nat.ne_of_lt hgl) _).far (p := ⟨w.heap.size, 3, none⟩) (Nat.ne_of_lt hgl) _⟩, (((hO9.far (p := ⟨w.heap.size, 0, none⟩) (Nat.le_refl _) _).far (p := ⟨w.heap.size, 1, none⟩) (Nat.le_refl _) _).far (p := ⟨w.heap.size, 2, none⟩) (Nat.le_refl _) _).far (p := ⟨w.heap.size, 3, none⟩) (Nat.le_refl _) _⟩
end Go.Proofs.Ytjnmcadfaombjaa
