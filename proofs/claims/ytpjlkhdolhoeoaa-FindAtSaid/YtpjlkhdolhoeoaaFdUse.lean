/- Walks: has, hits (chapter 03). -/
import Derived.Test.YtpjlkhdolhoeoaaFdEach
namespace Go.Proofs.Ytpjlkhdolhoeoaa
open Go.Shelf Go.RowKit Go.Lib Go.Sort Go.Maps
set_option linter.unusedVariables false
set_option linter.unusedSimpArgs false
def hitV (h : Nat × Nat) : List Value := [.int .i64 (h.1 : Int), .int .i64 (h.2 : Int)]
def hitG (l : List (Nat × Nat)) : List Value := l.flatMap hitV
theorem hitG_snoc (l : List (Nat × Nat)) (h : Nat × Nat) : hitG (l ++ [h]) = hitG l ++ hitV h := by simp [hitG]
theorem hitV_one (x : Nat × Nat) : ∀ v ∈ hitV x, v.oneCell' = true := by
  intro v hv
  simp [hitV] at hv
  rcases hv with rfl | rfl <;> rfl
def zeroHit : Value := .agg #[.int .i64 0, .int .i64 0]
theorem infoHit : (Try.prog.info? 45).map (fun i => (i.zero, i.size, i.bytes)) = some (some zeroHit, 2, 16) := by kernel_rfl
theorem row_ne_blk {w : World} {base : Nat} {e : TypeId} {size n c : Nat} {v : Value} {xs : List Value} {t : TypeId} {cs : Array Value} (h : w.ownsRow base e size v n xs) (hk : Blk w c t cs) (hn : e ≠ t) : v.ownBlock ≠ some c := by
  intro he
  rcases h.2 with ⟨h2, _⟩ | ⟨q, cap, cur, hv, hq, hh, _⟩
  · rw [h2] at he; cases he
  · rw [hv] at he
    cases he
    unfold Blk at hk
    rw [hk] at hh
    cases hh
    exact hn rfl
/-- The box that the hits are told into. -/
structure HitM (wS : World) (c : Nat) (acc : List (Nat × Nat)) (wx : World) : Prop where
  bel : Below wS.heap.size wS wx
  cS : wS.heap.size ≤ c
  row : ∃ v, Blk wx c 40 #[v] ∧ wx.ownsRow wS.heap.size 45 2 v acc.length (hitG acc) ∧ v.ownBlock ≠ some c
set_option maxRecDepth 100000 in
set_option maxHeartbeats 4000000 in
theorem ftell {wS wx : World} {c : Nat} {acc : List (Nat × Nat)} (a k : Nat) (h : HitM wS c acc wx) (hl : acc.length ≤ 1000000) :
    Calls Try.prog 30 #[.agg #[.int .i64 (a : Int), .int .i64 (k : Int)], .pointer (some ⟨c, 0, none⟩)] wx fun e w' => e = .returned (.bool true) ∧ HitM wS c (acc ++ [(a, k)]) w' := by
  obtain ⟨i0, hi, hz0, hz1, hz2⟩ := info_parts infoHit
  obtain ⟨hb, hcS, v, hk, hr, hn⟩ := h
  have hbx := hk.alloc (.cells #[.int .i64 (a : Int), .int .i64 (k : Int)] 45)
  have hx := Blk.new wx 45 #[.int .i64 (a : Int), .int .i64 (k : Int)]
  have hr2 := hr.alloc (.cells #[.int .i64 (a : Int), .int .i64 (k : Int)] 45)
  have hb2 := hb.alloc hb.size (.cells #[.int .i64 (a : Int), .int .i64 (k : Int)] 45)
  have HB := Lib.hid (And.intro hb2 hcS)
  have HK := Lib.hid hbx
  have HR := Lib.hid hr2
  have HNE := Lib.hid hn
  clear hb hcS hk hr hn hb2
  go_enter Try.func30, Try.ntmps30
  go_upto_region 1 with fail
  generalize wx.alloc (.cells #[.int .i64 (a : Int), .int .i64 (k : Int)] 45) = w1 at hx hr2 hbx HB HK HR ⊢
  have b0 := hbx.cell 0
  have x0 := hx.cell 0
  have x1 := hx.cell 1
  have hlt := hbx.lt
  have hh := HB.out.1.size
  have e3 : acc.length + 1 ≤ maxLen := by unfold maxLen; omega
  have e4 : (acc.length + 1) * 16 ≤ 140737488355328 := by omega
  have e5 : wS.heap.size ≤ (w1.alloc (.cells #[.int .i64 (a : Int), .int .i64 (k : Int)] 45)).heap.size := by simp; omega
  have HLT := Lib.hid hlt
  clear hx hbx hlt hh
  go_wp2_with (at_builtin; refine wpList_append_own _ rfl _ _ 40 rfl wS.heap.size 45 i0 zeroHit 2 16 Try.underlying40 hi hz0 hz1 hz2 rfl (by decide) _ _ _ rfl (hr2.alloc _) ⟨w1.heap.size, 0, none⟩ 1 1 (hitV (a, k)) rfl rfl (cells_newF _ _ _) (hitV_one _) e3 e4 e5 ?_; intro v' w4 hown4 hg4 _; have hbx4 : Blk w4 c 40 #[v] := (hg4.block c (by have := HLT.out; simp; omega) (fun e => HNE.out e.symm)).trans (HK.out.alloc _); have d0 := hbx4.cell 0; have d1 := hbx4.frozen 0; obtain ⟨o4, c4, rfl⟩ := own_shapeF hown4)
  have hg4 : (w1.alloc (.cells #[.int .i64 (a : Int), .int .i64 (k : Int)] 45)).grownBy w4 v.ownBlock := hg4
  have hb4 : Below wS.heap.size wS w4 := (HB.out.1.alloc HB.out.1.size _).trans (below_grown hg4 e5 (fun j hj => (HR.out.lt j hj).1))
  have hne : (Value.slice o4 (acc.length + 1) c4).ownBlock ≠ some c := fun e => row_ne_blk hown4 hbx4 (by decide) e
  go_ret
  refine ⟨rfl, ?_, HB.out.2, _, hbx4.set_ 0 _, ?_, hne⟩
  · exact hb4.trans ⟨rfl, rfl, rfl, by simp [World.setCell], fun j hj => Below.heap_setCell w4 ⟨c, 0, none⟩ _ j (by have := HB.out.2; simp only; omega)⟩
  · have h1 := own_keep hown4 (w' := w4.setCell ⟨c, 0, none⟩ (.slice o4 (acc.length + 1) c4)) (fun b hb hl => Below.heap_setCell w4 ⟨c, 0, none⟩ _ b (fun e => hne (by rw [hb]; simp only at e; rw [e])))
    rw [hitG_snoc, List.length_append]
    exact h1
end Go.Proofs.Ytpjlkhdolhoeoaa
