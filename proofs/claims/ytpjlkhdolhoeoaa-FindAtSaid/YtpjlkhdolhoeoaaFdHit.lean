/- Walks: Hits, Has, Len (chapter 03). -/
import Derived.Test.YtpjlkhdolhoeoaaFdSrt
namespace Go.Proofs.Ytpjlkhdolhoeoaa
open Go.Shelf Go.RowKit Go.Lib Go.Maps
set_option linter.unusedVariables false
set_option linter.unusedSimpArgs false
theorem hitsJ_len (ls : List Bs) (s : Bs) : (hitsJ ls s).length ≤ s.length * ls.length := by
  unfold hitsJ
  rw [List.length_flatMap]
  have : ∀ (l : List Nat) (f : Nat → Nat) (b : Nat), (∀ x, f x ≤ b) → (l.map f).sum ≤ l.length * b := by
    intro l f b h
    induction l with
    | nil => simp
    | cons x r ih => rw [List.map_cons, List.sum_cons, List.length_cons, Nat.succ_mul]; have := h x; omega
  have h := this (List.range s.length) (fun k => (((List.range ls.length).filter fun w => standsB s (ls.getD w []) k).map fun w => (k, w)).length) ls.length (fun k => by
    rw [List.length_map]
    exact Nat.le_trans (List.length_filter_le _ _) (by simp))
  rw [List.length_range] at h
  exact h
set_option maxRecDepth 100000 in
set_option maxHeartbeats 4000000 in
theorem fhits {w0 wS : World} {M : Nat} {ls : List Bs} (h : MadeM w0 M ls wS) (hls : ls.length ≤ 100000) (s : Bs) (hs : s.length ≤ 1000000) (hsl : s.length * ls.length ≤ 1000000) :
    Calls Try.prog 17 #[.pointer (some ⟨M, 0, none⟩), .string (strOf s)] wS fun e w' => ∃ v, e = .returned v ∧ w'.ownsRow wS.heap.size 45 2 v (hitsJ ls s).length (hitG (hitsJ ls s)) ∧ Below wS.heap.size wS w' := by
  obtain ⟨B, P, bk, E, evs, lv, sv, D, hbig, hbk, hE, hL, hP⟩ := h
  have hp : ∀ x ∈ ls, x ≠ [] → x ∈ P := fun x hx => hL x (by rw [List.take_length]; exact hx)
  have hperm := hits_perm hbig.tr hp s
  have hlen : (hitsRun P ls s).length ≤ 1000000 := by rw [hperm.length_eq]; have := hitsJ_len ls s; omega
  have hstart : HitM wS wS.heap.size [] (wS.alloc (.cells #[.slice none 0 0] 40)) :=
    ⟨(Below.refl _ _).alloc (Nat.le_refl _) _, Nat.le_refl _, _, Blk.new _ _ _, World.ownsRow_nil _ _ _ _, by simp [Value.ownBlock]⟩
  have heach := fun w1 (hw : HitM wS wS.heap.size [] w1) => feach hbig hbk hE hP hls 30 #[.pointer (some ⟨wS.heap.size, 0, none⟩)] true (HitM wS wS.heap.size) eg30 (fun _ _ hh => hh.bel) s (fun acc wx a k hh hlt => ftell a k hh (by omega)) hs hw
  have HEACH := Lib.hid heach
  have HST := Lib.hid hstart
  have HSRT := Lib.hid (fun l (hl : List.Perm l (hitsRun P ls s)) (hs : l.Pairwise fun a b => ¬ ltH b a) => hits_sorted hbig.tr hp hl hs)
  have HLEN := Lib.hid hlen
  clear hbig hbk hE hL hP hp hperm hlen heach hstart
  go_enter Try.func17, Try.ntmps17
  go_upto_region 2 with fail
  generalize wS.alloc (.cells #[.slice none 0 0] 40) = w1 at HST ⊢
  go_upto_region 3 with (go_at_call 27; refine (HEACH.out _ HST.out).mono ?_; rintro e w2 ⟨rfl, hI⟩; have HI := Lib.hid hI; clear hI)
  obtain ⟨hb2, hc2, v, hk2, hr2, hn2⟩ := HI.out
  have b0 := hk2.cell 0
  have htold : toldH true (hitsRun P ls s) = hitsRun P ls s := rfl
  rw [htold] at hr2
  have hso := sortHits hr2 (by have := HLEN.out; omega)
  have HSO := Lib.hid hso
  have HK2 := Lib.hid (And.intro hb2 (And.intro hk2 (And.intro hr2 hn2)))
  clear hb2 hc2 hk2 hr2 hn2 hso htold
  go_upto_region 4 with (go_at_call 31; refine HSO.out.mono ?_; rintro e w3 ⟨rfl, l', hl', hs', hr3, hg3⟩; have HN := Lib.hid (And.intro hl' (And.intro hs' (And.intro hr3 hg3))); clear hl' hs' hr3 hg3)
  obtain ⟨hl', hs', hr3, hg3⟩ := HN.out
  obtain ⟨hb2, hk2, hr2, hn2⟩ := HK2.out
  have hk3 : Blk w3 wS.heap.size 40 #[v] := (hg3.block _ hk2.lt (fun e => hn2 e.symm)).trans hk2
  have b1 := hk3.cell 0
  have heq := HSRT.out l' hl' hs'
  subst heq
  have HE := Lib.hid (And.intro hr3 (hb2.trans (below_grown hg3 hb2.size (fun j hj => (hr2.lt j hj).1))))
  clear hl' hs' hr3 hg3 hb2 hk2 hr2 hn2 hk3 b0
  go_wp2_with fail
  go_ret
  exact ⟨v, rfl, HE.out.1, HE.out.2⟩
end Go.Proofs.Ytpjlkhdolhoeoaa
