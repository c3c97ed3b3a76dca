/- Walks: Has, Len, First (chapter 03). -/
import Derived.Test.YtpjlkhdolhoeoaaFdHit
namespace Go.Proofs.Ytpjlkhdolhoeoaa
open Go.Shelf Go.RowKit Go.Lib Go.Maps
set_option linter.unusedVariables false
set_option linter.unusedSimpArgs false
theorem eg28 : ∀ args w, (callFunc 28 args).run Try.prog w = .ok (.enter 28 args) w := enters_of Try.func28 (by kernel_rfl) rfl
/-- The box that is told whether there was one. -/
structure HasM (wS : World) (c : Nat) (acc : List (Nat × Nat)) (wx : World) : Prop where
  bel : Below wS.heap.size wS wx
  cS : wS.heap.size ≤ c
  bx : Blk wx c 4 #[.bool (!acc.isEmpty)]
set_option maxRecDepth 100000 in
theorem ffound {wS wx : World} {c : Nat} {acc : List (Nat × Nat)} (a k : Nat) (h : HasM wS c acc wx) :
    Calls Try.prog 28 #[.agg #[.int .i64 (a : Int), .int .i64 (k : Int)], .pointer (some ⟨c, 0, none⟩)] wx fun e w' => e = .returned (.bool false) ∧ HasM wS c (acc ++ [(a, k)]) w' := by
  obtain ⟨hb, hcS, hk⟩ := h
  have hbx := hk.alloc (.cells #[.int .i64 (a : Int), .int .i64 (k : Int)] 45)
  have hb2 := hb.alloc hb.size (.cells #[.int .i64 (a : Int), .int .i64 (k : Int)] 45)
  have HB := Lib.hid (And.intro hb2 hcS)
  have HK := Lib.hid hbx
  clear hb hcS hk hb2
  go_enter Try.func28, Try.ntmps28
  go_upto_region 1 with fail
  generalize wx.alloc (.cells #[.int .i64 (a : Int), .int .i64 (k : Int)] 45) = w1 at hbx HB HK ⊢
  have b0 := hbx.cell 0
  have b1 := hbx.frozen 0
  clear hbx
  go_wp2_with fail
  go_ret
  refine ⟨rfl, HB.out.1.trans ⟨rfl, rfl, rfl, by simp [World.setCell], fun j hj => Below.heap_setCell w1 ⟨c, 0, none⟩ _ j (by have := HB.out.2; simp only; omega)⟩, HB.out.2, ?_⟩
  have h1 := HK.out.set_ 0 (.bool true)
  have h2 : (acc ++ [(a, k)]).isEmpty = false := by cases acc <;> rfl
  rw [h2]
  exact h1
set_option maxRecDepth 100000 in
set_option maxHeartbeats 4000000 in
theorem fhas {w0 wS : World} {M : Nat} {ls : List Bs} (h : MadeM w0 M ls wS) (hls : ls.length ≤ 100000) (s : Bs) (hs : s.length ≤ 1000000) :
    Calls Try.prog 15 #[.pointer (some ⟨M, 0, none⟩), .string (strOf s)] wS fun e w' => e = .returned (.bool (!(hitsJ ls s).isEmpty)) ∧ Below wS.heap.size wS w' := by
  obtain ⟨B, P, bk, E, evs, lv, sv, D, hbig, hbk, hE, hL, hP⟩ := h
  have hp : ∀ x ∈ ls, x ≠ [] → x ∈ P := fun x hx => hL x (by rw [List.take_length]; exact hx)
  have hperm := hits_perm hbig.tr hp s
  have hemp : (toldH false (hitsRun P ls s)).isEmpty = (hitsJ ls s).isEmpty := by
    have h1 := hperm.length_eq
    unfold toldH
    cases h2 : hitsRun P ls s <;> cases h3 : hitsJ ls s <;> rw [h2, h3] at h1 <;> simp at h1 ⊢
  have hstart : HasM wS wS.heap.size [] (wS.alloc (.cells #[.bool false] 4)) := ⟨(Below.refl _ _).alloc (Nat.le_refl _) _, Nat.le_refl _, Blk.new _ _ _⟩
  have heach := fun w1 (hw : HasM wS wS.heap.size [] w1) => feach hbig hbk hE hP hls 28 #[.pointer (some ⟨wS.heap.size, 0, none⟩)] false (HasM wS wS.heap.size) eg28 (fun _ _ hh => hh.bel) s (fun acc wx a k hh hlt => ffound a k hh) hs hw
  have HEACH := Lib.hid heach
  have HST := Lib.hid hstart
  have HEMP := Lib.hid hemp
  obtain ⟨bz, hbz⟩ : ∃ b, (hitsJ ls s).isEmpty = b := ⟨_, rfl⟩
  rw [hbz] at HEMP ⊢
  clear hbig hbk hE hL hP hp hperm heach hstart hemp hbz
  go_enter Try.func15, Try.ntmps15
  go_upto_region 2 with fail
  generalize wS.alloc (.cells #[.bool false] 4) = w1 at HST ⊢
  go_upto_region 3 with (go_at_call 27; refine (HEACH.out _ HST.out).mono ?_; rintro e w2 ⟨rfl, hI⟩; have HI := Lib.hid hI; clear hI)
  have b0 := HI.out.bx.cell 0
  rw [HEMP.out] at b0
  go_wp2_with fail
  go_ret
  exact ⟨rfl, HI.out.bel⟩
set_option maxRecDepth 100000 in
theorem flen {w0 wS : World} {M : Nat} {ls : List Bs} (h : MadeM w0 M ls wS) :
    Calls Try.prog 16 #[.pointer (some ⟨M, 0, none⟩)] wS fun e w' => e = .returned (.int .i64 (ls.length : Nat)) ∧ wS = w' := by
  obtain ⟨B, P, bk, E, evs, lv, sv, D, hbig, hbk, hE, hL, hP⟩ := h
  obtain ⟨gs, scap, rfl, _, _, _⟩ := hbig.svn
  obtain ⟨lo, lc, rfl⟩ := own_shapeF hbig.tx
  have m0 : wS.cell? ⟨M, 0, none⟩ = some (.slice lo ls.length lc) := hbig.m.cell 0
  have m1 : wS.cell? ⟨M, 1, none⟩ = some (.slice (some ⟨gs, 0, none⟩) P.length scap) := hbig.m.cell 1
  have HM := Lib.hid (fmade m1 hbig.tr.pos)
  clear hbig hbk hE hL hP m1
  go_enter Try.func16, Try.ntmps16
  go_wp2_with (go_at_call 29; refine HM.out.mono ?_; rintro e w1 ⟨rfl, rfl⟩)
  go_ret
  exact ⟨rfl, rfl⟩
end Go.Proofs.Ytpjlkhdolhoeoaa
