/- Walks: the page's example (chapter 03's awake). -/
import Derived.Test.YtpjlkhdolhoeoaaFdNil
import Derived.Test.YtpjlkhdolhoeoaaFdStb
namespace Go.Proofs.Ytpjlkhdolhoeoaa
open Go.Shelf Go.RowKit Go.Lib Go.Maps
set_option linter.unusedVariables false
set_option linter.unusedSimpArgs false
theorem MadeM.keep {w0 w w' : World} {M : Nat} {ls : List Bs} (h : MadeM w0 M ls w) (hb : Below w.heap.size w w') : MadeM w0 M ls w' := by
  obtain ⟨B, P, bk, E, evs, lv, sv, D, hbig, r⟩ := h
  exact ⟨B, P, bk, E, evs, lv, sv, D, hbig.bel_ hb, r⟩
theorem MadeM.bel {w0 w : World} {M : Nat} {ls : List Bs} (h : MadeM w0 M ls w) : Below w0.heap.size w0 w := by
  obtain ⟨B, P, bk, E, evs, lv, sv, D, hbig, r⟩ := h
  exact hbig.bel
def awL : List Bs := [[104, 101], [115, 104, 101], [104, 101, 114, 115]]
def awS : Bs := [117, 115, 104, 101, 114, 115]
theorem aw_hits : hitsJ awL awS = [(1, 1), (2, 0), (2, 2)] := by decide
theorem aw_blot : blotL awL 42 [(1, 1), (2, 0), (2, 2)] awS = ([117, 42, 42, 42, 42, 42], 6, 5) := by decide
theorem aw_fit : fitN awL = 0 := by decide
theorem aw_tot : tot awL = 9 := by decide
set_option maxRecDepth 100000 in
set_option maxHeartbeats 4000000 in
theorem fawake (w : World) : Calls Try.prog 10 #[] w fun e w' => e = .returned (.bool true) ∧ Below w.heap.size w w' := by
  have hx := Blk.new w 9 #[.string ⟨#[104, 101]⟩, .string ⟨#[115, 104, 101]⟩, .string ⟨#[104, 101, 114, 115]⟩]
  have hb := (Below.refl w.heap.size w).alloc (Nat.le_refl _) (.cells #[.string ⟨#[104, 101]⟩, .string ⟨#[115, 104, 101]⟩, .string ⟨#[104, 101, 114, 115]⟩] 9)
  have htx : TxtM (w.alloc (.cells #[.string ⟨#[104, 101]⟩, .string ⟨#[115, 104, 101]⟩, .string ⟨#[104, 101, 114, 115]⟩] 9)) w.heap.size 0 awL := by
    intro j s hj
    rw [Nat.zero_add, hx.cell j]
    match j, hj with
    | 0, hj => simp [awL] at hj; subst hj; rfl
    | 1, hj => simp [awL] at hj; subst hj; rfl
    | 2, hj => simp [awL] at hj; subst hj; rfl
    | j + 3, hj => simp [awL] at hj
  have HNEW := Lib.hid (fnew (cap := 3) htx aw_fit (by intro s hs; simp [awL] at hs; rcases hs with rfl | rfl | rfl <;> decide) (fun N hN => stableSmall N (by rw [aw_tot] at hN; omega)))
  have HB := Lib.hid hb
  have HH := Lib.hid (fun (w0 wS : World) (M : Nat) (h : MadeM w0 M awL wS) => show Calls Try.prog 17 #[.pointer (some ⟨M, 0, none⟩), .string ⟨#[117, 115, 104, 101, 114, 115]⟩] wS fun e w' => ∃ v, e = .returned v ∧ w'.ownsRow wS.heap.size 45 2 v 3 (hitG [(1, 1), (2, 0), (2, 2)]) ∧ Below wS.heap.size wS w' by
    have := fhits h (by decide) awS (by decide) (by decide)
    rw [aw_hits] at this
    exact this)
  have HBL := Lib.hid (fun (w0 wS : World) (M : Nat) (h : MadeM w0 M awL wS) => show Calls Try.prog 13 #[.pointer (some ⟨M, 0, none⟩), .string ⟨#[117, 115, 104, 101, 114, 115]⟩, .int .u8 42] wS fun e w' => e = .returned (.tuple #[.string ⟨#[117, 42, 42, 42, 42, 42]⟩, .int .i64 5]) ∧ Below wS.heap.size wS w' by
    have := fblot h (by decide) awS (by decide) (by decide) 42
    rw [aw_hits, aw_blot] at this
    exact this)
  have HLN := Lib.hid (fun (w0 wS : World) (M : Nat) (h : MadeM w0 M awL wS) => show Calls Try.prog 16 #[.pointer (some ⟨M, 0, none⟩)] wS fun e w' => e = .returned (.int .i64 3) ∧ wS = w' from flen h)
  clear hx hb htx
  go_enter Try.func10, Try.ntmps10
  go_upto_region 4 with (go_at_call 8; refine HNEW.out.mono ?_; rintro e w2 ⟨M, rfl, hm⟩; have HM := Lib.hid hm; clear hm)
  go_upto_region 5 with (go_at_call 17; refine (HH.out _ _ _ HM.out).mono ?_; rintro e w3 ⟨v, rfl, hr, hb3⟩; obtain ⟨o1, c1, rfl⟩ := own_shapeF hr; have H3 := Lib.hid (And.intro hr hb3); clear hr hb3)
  go_upto_region 6 with (go_at_call 13; refine (HBL.out _ _ _ (HM.out.keep H3.out.2)).mono ?_; rintro e w4 ⟨rfl, hb4⟩; have H4 := Lib.hid hb4; clear hb4)
  have hr4 : w4.ownsRow w2.heap.size 45 2 (.slice o1 3 c1) ([(1, 1), (2, 0), (2, 2)] : List (Nat × Nat)).length (hitG [(1, 1), (2, 0), (2, 2)]) := own_below H3.out.1 H4.out
  rcases hr4.2 with ⟨_, h0⟩ | ⟨g1, cap1, cur1, hvv, _⟩
  · simp at h0
  simp only [Value.slice.injEq] at hvv
  obtain ⟨rfl, hq1, hq2⟩ := hvv
  clear hq1 hq2
  obtain ⟨a0, a1⟩ := hit_cells (k := 0) (e := (1, 1)) hr4 rfl
  obtain ⟨b0, b1⟩ := hit_cells (k := 1) (e := (2, 0)) hr4 rfl
  obtain ⟨c0, c1'⟩ := hit_cells (k := 2) (e := (2, 2)) hr4 rfl
  have a0' : w4.cell? ⟨g1, 0, none⟩ = some (.int .i64 1) := a0
  have a1' : w4.cell? ⟨g1, 1, none⟩ = some (.int .i64 1) := a1
  have b0' : w4.cell? ⟨g1, 2, none⟩ = some (.int .i64 2) := b0
  have b1' : w4.cell? ⟨g1, 3, none⟩ = some (.int .i64 0) := b1
  have c0' : w4.cell? ⟨g1, 4, none⟩ = some (.int .i64 2) := c0
  have c1'' : w4.cell? ⟨g1, 5, none⟩ = some (.int .i64 2) := c1'
  clear a0 a1 b0 b1 c0 c1' hr4
  go_wp2_with (go_at_call 16; refine (HLN.out _ _ _ ((HM.out.keep H3.out.2).keep H4.out)).mono ?_; rintro e w5 ⟨rfl, rfl⟩)
  go_ret
  refine ⟨rfl, ?_⟩
  have h1 := HB.out.trans (HM.out.bel.mono HB.out.size)
  have h2 := h1.trans (H3.out.2.mono h1.size)
  exact h2.trans (H4.out.mono h2.size)
end Go.Proofs.Ytpjlkhdolhoeoaa
