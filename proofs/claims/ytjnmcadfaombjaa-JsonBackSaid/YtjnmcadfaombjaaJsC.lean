/- Walks: the document's token at a place (chapter 10). -/
import Derived.Test.YtjnmcadfaombjaaJsA
import Derived.Test.YtjnmcadfaombjaaJsB
import Derived.StillTailTactics
namespace Go.Proofs.Ytjnmcadfaombjaa
open Go.RowKit
set_option linter.unusedVariables false
set_option linter.unusedSimpArgs false
def tokC (t : Tok) : Array Value := #[.int .u8 t.kind, .string (strOf t.text), .int .i64 t.frm, .int .i64 t.to]
def OneR (o : Option Tok) (e : Ending) : Prop := match o with
  | some t => e = .returned (.tuple #[.agg (tokC t), .bool true])
  | none => ∃ (a : Int) (b : ByteArray) (c d : Int), e = .returned (.tuple #[.agg #[.int .u8 a, .string b, .int .i64 c, .int .i64 d], .bool false])
theorem atL_begins (l p : List UInt8) (k : Nat) : atL l p k = beginsL l p k := rfl
theorem rword_at (s : ByteArray) (p : List UInt8) (k : Nat) (b : Bool) (w : World) (hs : s.size ≤ 1000000) (hp : p.length ≤ 100) (hb : atL s.data.toList p k = b) :
    Calls Try.prog 43 #[.string s, .string (strOf p), .int .i64 k] w fun e w' => e = .returned (.bool b) ∧ w = w' := by
  have h := rbegins_any s (strOf p) k w (by omega) (by rw [strOf_size]; omega)
  rw [strOf_list, ← atL_begins, hb] at h
  exact h
set_option maxRecDepth 100000 in
set_option maxHeartbeats 2000000 in
theorem rone_mark (s : ByteArray) (k : Nat) (w : World) (hs : s.size ≤ 1000000) (hk : k < s.size) (hm : markK (bt s.data.toList k)) :
    Calls Try.prog 26 #[.string s, .int .i64 k] w fun e w' => OneR (oneT s.data.toList k) e ∧ Below w.heap.size w w' := by
  have HV : Hid (∀ c : Int, (bt s.data.toList k : Int) = c → OneR (oneT s.data.toList k) (.returned (.tuple #[.agg #[.int .u8 c, .string ⟨#[]⟩, .int .i64 k, .int .i64 ((k : Int) + 1)], .bool true]))) := by
    intro c hc
    subst hc
    unfold oneT
    rw [if_pos hm]
    rfl
  have hx := bt_byte s k hk
  have HX := Lib.hid hx
  unfold markK at hm
  clear hx
  rcases hm with h | h | h | h | h | h
  · have HF := Lib.hid (HV.out 123 (by omega))
    have hx := HX.out
    rw [h] at hx
    clear h HV HX
    go_enter Try.func26, Try.ntmps26
    go_wp2_with fail
    exact bodyPost_ret (v := .tuple #[.agg #[.int .u8 123, .string ⟨#[]⟩, .int .i64 k, .int .i64 ((k : Int) + 1)], .bool true]) (by simp [results, Try.f26, go_sem]) rfl ⟨HF.out, (Below.refl w.heap.size w).alloc (Nat.le_refl _) _⟩
  · have HF := Lib.hid (HV.out 125 (by omega))
    have hx := HX.out
    rw [h] at hx
    clear h HV HX
    go_enter Try.func26, Try.ntmps26
    go_wp2_with fail
    exact bodyPost_ret (v := .tuple #[.agg #[.int .u8 125, .string ⟨#[]⟩, .int .i64 k, .int .i64 ((k : Int) + 1)], .bool true]) (by simp [results, Try.f26, go_sem]) rfl ⟨HF.out, (Below.refl w.heap.size w).alloc (Nat.le_refl _) _⟩
  · have HF := Lib.hid (HV.out 91 (by omega))
    have hx := HX.out
    rw [h] at hx
    clear h HV HX
    go_enter Try.func26, Try.ntmps26
    go_wp2_with fail
    exact bodyPost_ret (v := .tuple #[.agg #[.int .u8 91, .string ⟨#[]⟩, .int .i64 k, .int .i64 ((k : Int) + 1)], .bool true]) (by simp [results, Try.f26, go_sem]) rfl ⟨HF.out, (Below.refl w.heap.size w).alloc (Nat.le_refl _) _⟩
  · have HF := Lib.hid (HV.out 93 (by omega))
    have hx := HX.out
    rw [h] at hx
    clear h HV HX
    go_enter Try.func26, Try.ntmps26
    go_wp2_with fail
    exact bodyPost_ret (v := .tuple #[.agg #[.int .u8 93, .string ⟨#[]⟩, .int .i64 k, .int .i64 ((k : Int) + 1)], .bool true]) (by simp [results, Try.f26, go_sem]) rfl ⟨HF.out, (Below.refl w.heap.size w).alloc (Nat.le_refl _) _⟩
  · have HF := Lib.hid (HV.out 58 (by omega))
    have hx := HX.out
    rw [h] at hx
    clear h HV HX
    go_enter Try.func26, Try.ntmps26
    go_wp2_with fail
    exact bodyPost_ret (v := .tuple #[.agg #[.int .u8 58, .string ⟨#[]⟩, .int .i64 k, .int .i64 ((k : Int) + 1)], .bool true]) (by simp [results, Try.f26, go_sem]) rfl ⟨HF.out, (Below.refl w.heap.size w).alloc (Nat.le_refl _) _⟩
  · have HF := Lib.hid (HV.out 44 (by omega))
    have hx := HX.out
    rw [h] at hx
    clear h HV HX
    go_enter Try.func26, Try.ntmps26
    go_wp2_with fail
    exact bodyPost_ret (v := .tuple #[.agg #[.int .u8 44, .string ⟨#[]⟩, .int .i64 k, .int .i64 ((k : Int) + 1)], .bool true]) (by simp [results, Try.f26, go_sem]) rfl ⟨HF.out, (Below.refl w.heap.size w).alloc (Nat.le_refl _) _⟩
/-- A byte that is no sign: the first test says no. -/
theorem not_mark {c : Nat} (h : ¬ markK c) : ((c : Int) == 123) = false ∧ ((c : Int) == 125) = false ∧ ((c : Int) == 91) = false ∧ ((c : Int) == 93) = false ∧ ((c : Int) == 58) = false ∧ ((c : Int) == 44) = false := by
  unfold markK at h
  refine ⟨?_, ?_, ?_, ?_, ?_, ?_⟩ <;> (simp only [beq_eq_false_iff_ne]; omega)
set_option maxRecDepth 100000 in
set_option maxHeartbeats 2000000 in
theorem rone_str (s : ByteArray) (k : Nat) (w : World) (hs : s.size ≤ 1000000) (hk : k < s.size) (hm : bt s.data.toList k = 34) :
    Calls Try.prog 26 #[.string s, .int .i64 k] w fun e w' => OneR (oneT s.data.toList k) e ∧ Below w.heap.size w w' := by
  have hx := bt_byte s k hk
  have HS := Lib.hid (fun w => rstr_any s k w hs hk)
  have HV : Hid (oneT s.data.toList k = match strJ (s.data.toList.drop (k + 1)) with
    | none => none
    | some (t, n) => some ⟨34, t, k, k + 1 + n⟩) := by
    show _ = _
    unfold oneT
    rw [if_neg (by rw [hm]; decide), if_pos hm]
    rfl
  rw [hm] at hx
  cases hj : strJ (s.data.toList.drop (k + 1)) with
  | none =>
    have HF : Hid (OneR (oneT s.data.toList k) (.returned (.tuple #[.agg #[.int .u8 34, .string ⟨#[]⟩, .int .i64 k, .int .i64 (-1)], .bool false]))) := by
      show OneR _ _; rw [HV.out, hj]; exact ⟨_, _, _, _, rfl⟩
    rw [hj] at HS
    unfold strV at HS
    dsimp only at HS
    clear hj HV hm
    go_enter Try.func26, Try.ntmps26
    go_wp2_with fail
    refine (HS.out _).mono ?_
    rintro e w2 ⟨rfl, b2⟩
    have hT := Blk.new w 32 #[.int .u8 0, .string ⟨#[]⟩, .int .i64 0, .int .i64 0]
    have hT2 := hT.below b2 hT.lt
    have hB2 := ((Below.refl w.heap.size w).alloc (Nat.le_refl _) (.cells #[.int .u8 0, .string ⟨#[]⟩, .int .i64 0, .int .i64 0] 32)).trans (b2.mono (by simp))
    have c0 := hT2.cell 0
    have c1 := hT2.cell 1
    have c2 := hT2.cell 2
    have c3 := hT2.cell 3
    have f0 := hT2.frozen 0
    have f1 := hT2.frozen 1
    have f2 := hT2.frozen 2
    have f3 := hT2.frozen 3
    go_wp2_with fail
    have hF := (((hT2.set_ 0 (.int .u8 34)).set_ 1 (.string ⟨#[]⟩)).set_ 2 (.int .i64 k)).set_ 3 (.int .i64 (-1))
    have s0 : (World.setCell _ _ _).cell? _ = some (.int .u8 34) := hF.cell 0
    have s1 : (World.setCell _ _ _).cell? _ = some (.string ⟨#[]⟩) := hF.cell 1
    have s2 : (World.setCell _ _ _).cell? _ = some (.int .i64 k) := hF.cell 2
    have s3 : (World.setCell _ _ _).cell? _ = some (.int .i64 (-1)) := hF.cell 3
    exact bodyPost_ret (v := .tuple #[.agg #[.int .u8 34, .string ⟨#[]⟩, .int .i64 k, .int .i64 (-1)], .bool false]) (by simp [results, Try.f26, go_sem, s0, s1, s2, s3]) rfl ⟨HF.out, (((hB2.setCell (p := ⟨w.heap.size, 0, none⟩) (Nat.le_refl _) _).setCell (p := ⟨w.heap.size, 1, none⟩) (Nat.le_refl _) _).setCell (p := ⟨w.heap.size, 2, none⟩) (Nat.le_refl _) _).setCell (p := ⟨w.heap.size, 3, none⟩) (Nat.le_refl _) _⟩
  | some p =>
    obtain ⟨t, n⟩ := p
    have hbd := strJ_bd _ _ (Nat.le_refl _) t n hj
    rw [List.length_drop, ← sz_len] at hbd
    have HF : Hid (OneR (oneT s.data.toList k) (.returned (.tuple #[.agg #[.int .u8 34, .string (strOf t), .int .i64 k, .int .i64 ((k + 1 + n : Nat) : Int)], .bool true]))) := by
      show OneR _ _; rw [HV.out, hj]; rfl
    rw [hj] at HS
    unfold strV at HS
    dsimp only at HS
    obtain ⟨N, hN⟩ : ∃ N : Nat, k + 1 + n = N := ⟨_, rfl⟩
    rw [hN] at HS HF
    have hN0 : 0 < N := by omega
    have hN1 : N ≤ 1000000 := by omega
    clear hj HV hm hbd hN
    go_enter Try.func26, Try.ntmps26
    go_wp2_with fail
    refine (HS.out _).mono ?_
    rintro e w2 ⟨rfl, b2⟩
    have hT := Blk.new w 32 #[.int .u8 0, .string ⟨#[]⟩, .int .i64 0, .int .i64 0]
    have hT2 := hT.below b2 hT.lt
    have hB2 := ((Below.refl w.heap.size w).alloc (Nat.le_refl _) (.cells #[.int .u8 0, .string ⟨#[]⟩, .int .i64 0, .int .i64 0] 32)).trans (b2.mono (by simp))
    have c0 := hT2.cell 0
    have c1 := hT2.cell 1
    have c2 := hT2.cell 2
    have c3 := hT2.cell 3
    have f0 := hT2.frozen 0
    have f1 := hT2.frozen 1
    have f2 := hT2.frozen 2
    have f3 := hT2.frozen 3
    go_wp2_with fail
    have hF := (((hT2.set_ 0 (.int .u8 34)).set_ 1 (.string (strOf t))).set_ 2 (.int .i64 k)).set_ 3 (.int .i64 N)
    have s0 : (World.setCell _ _ _).cell? _ = some (.int .u8 34) := hF.cell 0
    have s1 : (World.setCell _ _ _).cell? _ = some (.string (strOf t)) := hF.cell 1
    have s2 : (World.setCell _ _ _).cell? _ = some (.int .i64 k) := hF.cell 2
    have s3 : (World.setCell _ _ _).cell? _ = some (.int .i64 N) := hF.cell 3
    exact bodyPost_ret (v := .tuple #[.agg #[.int .u8 34, .string (strOf t), .int .i64 k, .int .i64 N], .bool true]) (by simp [results, Try.f26, go_sem, s0, s1, s2, s3]) rfl ⟨HF.out, (((hB2.setCell (p := ⟨w.heap.size, 0, none⟩) (Nat.le_refl _) _).setCell (p := ⟨w.heap.size, 1, none⟩) (Nat.le_refl _) _).setCell (p := ⟨w.heap.size, 2, none⟩) (Nat.le_refl _) _).setCell (p := ⟨w.heap.size, 3, none⟩) (Nat.le_refl _) _⟩
end Go.Proofs.Ytjnmcadfaombjaa
