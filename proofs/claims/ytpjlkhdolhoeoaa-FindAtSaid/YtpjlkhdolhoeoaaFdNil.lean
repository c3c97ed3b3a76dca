/- Walks: one that nobody made (chapter 03). -/
import Derived.Test.YtpjlkhdolhoeoaaFdBlu
namespace Go.Proofs.Ytpjlkhdolhoeoaa
open Go.Shelf Go.RowKit Go.Lib Go.Maps
set_option linter.unusedVariables false
set_option linter.unusedSimpArgs false
/-- Nobody made it. -/
def NoM (w : World) (p : Value) : Prop := p = .pointer none ∨ ∃ M, p = .pointer (some ⟨M, 0, none⟩) ∧ w.cell? ⟨M, 1, none⟩ = some (.slice none 0 0)
theorem NoM.keep {w w' : World} {p : Value} (h : NoM w p) (hb : Below w.heap.size w w') : NoM w' p := by
  rcases h with h | ⟨M, h1, h2⟩
  · exact .inl h
  · exact .inr ⟨M, h1, (World.cell?_of_block (hb.block M (lt_cell h2))).trans h2⟩
set_option maxRecDepth 100000 in
theorem fmadeNo {w : World} {p : Value} (h : NoM w p) : Calls Try.prog 29 #[p] w fun e w' => e = .returned (.bool false) ∧ w = w' := by
  rcases h with rfl | ⟨M, rfl, h⟩
  · go_enter Try.func29, Try.ntmps29
    go_wp2_with fail
    go_ret
    exact ⟨rfl, rfl⟩
  · go_enter Try.func29, Try.ntmps29
    go_wp2_with fail
    go_ret
    exact ⟨rfl, rfl⟩
set_option maxRecDepth 100000 in
theorem feachNo {w : World} {p fv : Value} (h : NoM w p) (s : ByteArray) : Calls Try.prog 27 #[p, .string s, fv] w fun e w' => e = .returned (.tuple #[]) ∧ w = w' := by
  have H := Lib.hid (fmadeNo h)
  clear h
  go_enter Try.func27, Try.ntmps27
  go_wp2_with (go_at_call 29; refine H.out.mono ?_; rintro e w1 ⟨rfl, rfl⟩)
  (try simp only [Exit.inBlock, Exit.then])
  refine bodyPost_ret (results_none rfl _ _ _) rfl ?_
  exact ⟨rfl, rfl⟩
set_option maxRecDepth 100000 in
theorem flenNo {w : World} {p : Value} (h : NoM w p) : Calls Try.prog 16 #[p] w fun e w' => e = .returned (.int .i64 0) ∧ w = w' := by
  have H := Lib.hid (fmadeNo h)
  clear h
  go_enter Try.func16, Try.ntmps16
  go_wp2_with (go_at_call 29; refine H.out.mono ?_; rintro e w1 ⟨rfl, rfl⟩)
  go_ret
  exact ⟨rfl, rfl⟩
set_option maxRecDepth 100000 in
theorem fhasNo {w : World} {p : Value} (h : NoM w p) (s : ByteArray) : Calls Try.prog 15 #[p, .string s] w fun e w' => e = .returned (.bool false) ∧ Below w.heap.size w w' := by
  have hb := (Below.refl w.heap.size w).alloc (Nat.le_refl _) (.cells #[.bool false] 4)
  have H := Lib.hid (fun fv => feachNo (fv := fv) (h.keep hb) s)
  have hx := Blk.new w 4 #[.bool false]
  clear h
  go_enter Try.func15, Try.ntmps15
  go_upto_region 2 with fail
  generalize w.alloc (.cells #[.bool false] 4) = w1 at hb H hx ⊢
  have b0 := hx.cell 0
  have HB := Lib.hid hb
  clear hx hb
  go_wp2_with (go_at_call 27; refine (H.out _).mono ?_; rintro e w2 ⟨rfl, rfl⟩)
  go_ret
  exact ⟨rfl, HB.out⟩
set_option maxRecDepth 100000 in
theorem fhitsNo {w : World} {p : Value} (h : NoM w p) (s : ByteArray) : Calls Try.prog 17 #[p, .string s] w fun e w' => e = .returned (.slice none 0 0) ∧ Below w.heap.size w w' := by
  have hb := (Below.refl w.heap.size w).alloc (Nat.le_refl _) (.cells #[.slice none 0 0] 40)
  have H := Lib.hid (fun fv => feachNo (fv := fv) (h.keep hb) s)
  have hx := Blk.new w 40 #[.slice none 0 0]
  have hs : ∀ W, Calls Try.prog 31 #[.slice none 0 0, .func (.func 32) #[] #[]] W fun e w' => e = .returned (.tuple #[]) ∧ w' = W := fun W => by
    have hc := AnyF.slices_SortFunc_none Try.sortHit none 0 (.func (.func 32) #[] #[]) W
    change Calls Try.prog 31 _ _ _ at hc
    exact hc
  have HS := Lib.hid hs
  clear h hs
  go_enter Try.func17, Try.ntmps17
  go_upto_region 2 with fail
  generalize w.alloc (.cells #[.slice none 0 0] 40) = w1 at hb H hx ⊢
  have b0 := hx.cell 0
  have HB := Lib.hid hb
  clear hx hb
  go_wp2_with (first
    | (go_at_call 27; refine (H.out _).mono ?_; rintro e w2 ⟨rfl, rfl⟩)
    | (go_at_call 31; refine (HS.out _).mono ?_; rintro e w2 ⟨rfl, rfl⟩))
  go_ret
  exact ⟨rfl, HB.out⟩
set_option maxRecDepth 100000 in
theorem ffirstNo {w : World} {p : Value} (h : NoM w p) (s : ByteArray) (f : Int) : Calls Try.prog 19 #[p, .string s, .int .i64 f] w fun e w' => e = .returned (.tuple #[.agg #[.int .i64 0, .int .i64 0], .bool false]) ∧ Below w.heap.size w w' := by
  have hb := (Below.refl w.heap.size w).alloc (Nat.le_refl _) (.cells #[.int .i64 0, .int .i64 0] 45)
  have H := Lib.hid (fhitsNo (h.keep hb) s)
  have hx := Blk.new w 45 #[.int .i64 0, .int .i64 0]
  clear h
  go_enter Try.func19, Try.ntmps19
  go_upto_region 1 with fail
  generalize w.alloc (.cells #[.int .i64 0, .int .i64 0] 45) = w1 at hb H hx ⊢
  have HB := Lib.hid (And.intro hb hx)
  clear hx hb
  go_wp2_with (go_at_call 17; refine H.out.mono ?_; rintro e w2 ⟨rfl, h2⟩; have H2 := Lib.hid h2; clear h2)
  refine wp_loop_rounds 1 ?_
  rw [rounds_succ]
  have hk := HB.out.2.below H2.out HB.out.2.lt
  have b0 := hk.cell 0
  have b1 := hk.cell 1
  have b2 := hk.frozen 0
  have b3 := hk.frozen 1
  have hk2 := (hk.set_ 0 (.int .i64 0)).set_ 1 (.int .i64 0)
  have g0 := hk2.cell 0
  have g1 := hk2.cell 1
  have HBB := Lib.hid (show Below w.heap.size w ((w2.setCell ⟨w.heap.size, 0, none⟩ (.int .i64 0)).setCell ⟨w.heap.size, 1, none⟩ (.int .i64 0)) from
    (HB.out.1.trans (H2.out.mono HB.out.1.size)).trans ⟨rfl, rfl, rfl, by simp [World.setCell], fun j hj => (Below.heap_setCell _ ⟨w.heap.size, 1, none⟩ _ j (by simp only; omega)).trans (Below.heap_setCell w2 ⟨w.heap.size, 0, none⟩ _ j (by simp only; omega))⟩)
  clear hk hk2
  go_wp2_with fail
  (try simp only [Exit.inBlock, Exit.then])
  refine bodyPost_ret (v := .tuple #[.agg #[.int .i64 0, .int .i64 0], .bool false]) ?_ rfl ⟨rfl, ?_⟩
  · rw [results_cell_tmp rfl]
    go_simp
  · exact HBB.out
set_option maxRecDepth 100000 in
set_option maxHeartbeats 2000000 in
theorem fblotNo {w : World} {p : Value} (h : NoM w p) (s : Bs) (by_ : UInt8) : Calls Try.prog 13 #[p, .string (strOf s), .int .u8 (by_.toNat : Int)] w fun e w' => e = .returned (.tuple #[.string (strOf s), .int .i64 0]) ∧ Below w.heap.size w w' := by
  have hcv := fun W => run_bytes_of_string (P := Try.prog) W 9 24 5 (strOf s) Try.underlying9 Try.underlying24 Try.underlying5
  have hsz := strOf_size s
  have HN := Lib.hid (fun W (hb : Below w.heap.size w W) => fhitsNo (h.keep hb) (strOf s))
  clear h
  go_enter Try.func13, Try.ntmps13
  go_upto_region 3 with fail
  obtain ⟨cap, hcap⟩ : ∃ cap, grownCap w s.length 0 5 = cap := ⟨_, rfl⟩
  have hcl : s.length ≤ cap := by rw [← hcap]; exact grownCap_ge _ _ _ _
  have hB := bytM_new w s cap hcl
  have hb1 := (Below.refl w.heap.size w).alloc (Nat.le_refl _) (.cells (bytesRow (strOf s) cap) 5 ((bytesRow (strOf s) cap).size, (bytesRow (strOf s) cap).size + 1))
  rw [hcap]
  obtain ⟨g, hg⟩ : ∃ g, g = w.heap.size := ⟨_, rfl⟩
  rw [← hg] at hB ⊢
  have hB' : BytM (w.alloc (.cells (bytesRow (strOf s) cap) 5 ((bytesRow (strOf s) cap).size, (bytesRow (strOf s) cap).size + 1))).drew g s cap := hB
  have hb1' : Below w.heap.size w (w.alloc (.cells (bytesRow (strOf s) cap) 5 ((bytesRow (strOf s) cap).size, (bytesRow (strOf s) cap).size + 1))).drew := ⟨hb1.os, hb1.tape, hb1.output, hb1.size, hb1.block⟩
  clear hB hb1 hcv hcap hg
  generalize (w.alloc (.cells (bytesRow (strOf s) cap) 5 ((bytesRow (strOf s) cap).size, (bytesRow (strOf s) cap).size + 1))).drew = w1 at hB' hb1' ⊢
  have HB1 := Lib.hid (And.intro hB' hb1')
  clear hB' hb1'
  go_wp2_with (go_at_call 17; refine (HN.out _ HB1.out.2).mono ?_; rintro e w2 ⟨rfl, h2⟩; have H2 := Lib.hid h2; clear h2)
  refine wp_loop_rounds 1 ?_
  rw [rounds_succ]
  have hcb := fun c => conv_back (HB1.out.1.keep (H2.out.block g HB1.out.1.lt)) c
  go_wp2_with fail
  go_ret2
  exact ⟨rfl, HB1.out.2.trans (H2.out.mono HB1.out.2.size)⟩
end Go.Proofs.Ytpjlkhdolhoeoaa
