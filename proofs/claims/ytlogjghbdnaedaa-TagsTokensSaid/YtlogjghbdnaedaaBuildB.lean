/- A strings.Builder: WriteByte. -/
import Derived.Test.YtlogjghbdnaedaaBuildK
import Derived.RangeFuncBox
namespace Go.Proofs.Ytlogjghbdnaedaa
open Go.RowKit
set_option linter.unusedVariables false
set_option linter.unusedSimpArgs false
theorem blk_grown {w1 w2 : World} {b n : Nat} {t e : TypeId} {cs : Array Value} {v : Value} {N : Nat} {xs : List Value} {o : Obj} (hk : Blk w1 b t cs) (hb : b < n) (ho : w1.ownsRow n e 1 v N xs)
    (hg : (w1.alloc o).grownBy w2 v.ownBlock) : Blk w2 b t cs :=
  (hg.block b (by have := hk.lt; simp; omega) (fun e => by have h1 := (ho.lt b e.symm).1; omega)).trans (hk.alloc _)
set_option maxHeartbeats 1000000 in
theorem writeByte_any (n b : Nat) (l : List UInt8) (c : Nat) (w : World) (h : Build n b l w) (hn : n ≤ w.heap.size) (hl : l.length + 1 ≤ 140737488355328) (hc : c < 256) :
    Calls Try.prog 57 #[.pointer (some ⟨b, 0, none⟩), .int .u8 c] w fun e w' => e = .returned .nilIface ∧ Build n b (l ++ [UInt8.ofNat c]) w' ∧ Bnd n b w w' := by
  obtain ⟨i0, hi, hz0, hz1, hz2⟩ := info_parts infoByte
  have HC := Lib.hid (check_any n b l w h)
  clear h
  have HL := Lib.hid hl
  clear hl
  go_enter Try.func57, Try.ntmps57
  go_wp2_with fail
  refine HC.out.mono ?_
  rintro e w1 ⟨rfl, ⟨hb, v, hk, ho⟩, hB⟩
  have c1 := hk.cell 1
  have hlt := hk.lt
  have e3 : l.length + 1 ≤ maxLen := by have := HL.out; unfold maxLen; omega
  have e4 : (l.length + 1) * 1 ≤ 140737488355328 := by have := HL.out; omega
  have e5 : n ≤ (w1.alloc (.cells #[.int .u8 c] 5)).heap.size := by have := hB.size; simp; omega
  go_wp2_with (at_builtin; refine wpList_append_own _ rfl _ _ 93 rfl n 5 i0 (.int .u8 0) 1 1 Try.underlying93 hi hz0 hz1 hz2 rfl (by decide) _ _ _ rfl (ho.alloc _) ⟨w1.heap.size, 0, none⟩ 1 1 [.int .u8 c] rfl rfl (cell_one_new _ _ _) (by simp [Value.oneCell']) e3 e4 e5 ?_; intro v' w2 hown' hgrow _; obtain ⟨g', cap', rfl⟩ := ownsRow_succ hown'; have hk2 := blk_grown hk hb ho hgrow; have d1 := hk2.cell 1; have f1 := hk2.frozen 1)
  have hgrow : (w1.alloc (.cells #[.int .u8 c] 5)).grownBy w2 v.ownBlock := hgrow
  have hgo : ∀ j, v.ownBlock = some j → n ≤ j := fun j hj => (ho.lt j hj).1
  have hB1 : Bnd n b w (w1.alloc (.cells #[.int .u8 c] 5)) := hB.trans (Bnd.of_below ((Below.refl _ w1).alloc (by have := hB.size; omega) _) (keepsOthers_below ((Below.refl _ w1).alloc (Nat.le_refl _) _)))
  have hB2 : Bnd n b w w2 := hB1.trans (Bnd.of_below ⟨hgrow.os, hgrow.tape, hgrow.output, hgrow.size, fun k hk' => hgrow.block k (by have := hB.size; simp; omega) (fun e => by
    have h1 := hgo k e.symm
    omega)⟩ (KeepsOthers.of_grownBy hgrow (fun j o hj hjo => by
      rcases (ho.alloc (.cells #[.int .u8 c] 5)).2 with h | ⟨q, cap, cur, hv, hq, hh, r⟩
      · rw [h.1] at hj; simp [Value.ownBlock] at hj
      · rw [hv] at hj
        simp [Value.ownBlock] at hj
        subst hj
        rw [hh] at hjo; cases hjo; rfl)))
  go_ret
  refine ⟨rfl, .inr ⟨hb, _, hk2.set_ 1 _, ?_⟩, hB2.set 1 _⟩
  have := ownsRow_setCell_below hown' (a := ⟨b, 1, none⟩) hb (Value.slice (some ⟨g', 0, none⟩) (l.length + 1) cap')
  have e : (l ++ [UInt8.ofNat c]).map (fun c => Value.int .u8 c.toNat) = l.map (fun c => Value.int .u8 c.toNat) ++ [.int .u8 c] := by
    rw [List.map_append, List.map_cons, List.map_nil]
    simp [Nat.mod_eq_of_lt hc]
  rw [e, List.length_append]
  exact this
end Go.Proofs.Ytlogjghbdnaedaa
