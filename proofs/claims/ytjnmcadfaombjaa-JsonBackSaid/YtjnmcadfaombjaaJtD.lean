/- Walks: the program's json reader: a sign, a word (chapter 10). -/
import Derived.Test.YtjnmcadfaombjaaJtH
import Derived.Test.YtjnmcadfaombjaaJsF3
import Derived.LoopN
import Derived.Handy
namespace Go.Proofs.Ytjnmcadfaombjaa
open Go.RowKit
set_option linter.unusedVariables false
set_option linter.unusedSimpArgs false
theorem Rdr.drew {w : World} {g : Nat} {s : ByteArray} {k : Nat} (h : Rdr w g s k) : Rdr w.drew g s k := h
set_option maxRecDepth 100000 in
set_option maxHeartbeats 2000000 in
theorem jmark (g k : Nat) (s : ByteArray) (w : World) (hR : Rdr w g s k) (hk : k < s.size) (hs : s.size ≤ 1000000) :
    Calls Try.prog 38 #[.pointer (some ⟨g, 0, none⟩)] w fun e w' => TakR (some ⟨bt s.data.toList k, [], k, k + 1⟩) g s e w' ∧ Only g w w' := by
  have hx := bt_byte s k hk
  have y0 := bt_lt s.data.toList k
  generalize bt s.data.toList k = c at *
  have hgl := hR.lt
  have HT0 := Lib.hid (Blk.new w 31 #[.int .u8 0, .string ⟨#[]⟩, .int .i64 0, .int .i64 0])
  have HR0 := Lib.hid (hR.alloc (.cells #[.int .u8 0, .string ⟨#[]⟩, .int .i64 0, .int .i64 0] 31))
  have HO0 := Lib.hid ((Only.refl g w).alloc (.cells #[.int .u8 0, .string ⟨#[]⟩, .int .i64 0, .int .i64 0] 31))
  clear hR
  go_enter Try.func38, Try.ntmps38
  go_upto_region 1 with fail
  generalize w.alloc (.cells #[.int .u8 0, .string ⟨#[]⟩, .int .i64 0, .int .i64 0] 31) = W0 at *
  have c1 := HR0.out.c1
  have f1 := HR0.out.f1
  go_upto_region 2 with fail
  have hR1 : Rdr (W0.setCell ⟨g, 1, none⟩ (.int .i64 ((k : Int) + 1))) g s (k + 1) := HR0.out.set (k + 1)
  have hT1 := Blk.far HT0.out (p := ⟨g, 1, none⟩) (Nat.ne_of_gt hgl) (.int .i64 ((k : Int) + 1))
  have hO1 := HO0.out.set 1 (.int .i64 ((k : Int) + 1))
  clear HR0 HT0 HO0 c1 f1
  generalize W0.setCell ⟨g, 1, none⟩ (.int .i64 ((k : Int) + 1)) = W1 at *
  have r0 : W1.drew.cell? ⟨w.heap.size, 0, none⟩ = some (.int .u8 0) := hT1.cell 0
  have f0 : W1.drew.frozen? ⟨w.heap.size, 0, none⟩ = false := hT1.frozen 0
  have r1 : W1.drew.cell? ⟨w.heap.size, 1, none⟩ = some (.string ⟨#[]⟩) := hT1.cell 1
  have f1 : W1.drew.frozen? ⟨w.heap.size, 1, none⟩ = false := hT1.frozen 1
  have r2 : W1.drew.cell? ⟨w.heap.size, 2, none⟩ = some (.int .i64 0) := hT1.cell 2
  have f2 : W1.drew.frozen? ⟨w.heap.size, 2, none⟩ = false := hT1.frozen 2
  have r3 : W1.drew.cell? ⟨w.heap.size, 3, none⟩ = some (.int .i64 0) := hT1.cell 3
  have f3 : W1.drew.frozen? ⟨w.heap.size, 3, none⟩ = false := hT1.frozen 3
  have p0 : W1.cell? ⟨w.heap.size, 0, none⟩ = some (.int .u8 0) := hT1.cell 0
  have g0 : W1.frozen? ⟨w.heap.size, 0, none⟩ = false := hT1.frozen 0
  have p1 : W1.cell? ⟨w.heap.size, 1, none⟩ = some (.string ⟨#[]⟩) := hT1.cell 1
  have g1 : W1.frozen? ⟨w.heap.size, 1, none⟩ = false := hT1.frozen 1
  have p2 : W1.cell? ⟨w.heap.size, 2, none⟩ = some (.int .i64 0) := hT1.cell 2
  have g2 : W1.frozen? ⟨w.heap.size, 2, none⟩ = false := hT1.frozen 2
  have p3 : W1.cell? ⟨w.heap.size, 3, none⟩ = some (.int .i64 0) := hT1.cell 3
  have g3 : W1.frozen? ⟨w.heap.size, 3, none⟩ = false := hT1.frozen 3
  have hs1 : (k : Int) + 1 - 1 = k := by omega
  have hs2 : IntKind.i64.wrap (k : Int) = k := IntWalk.i64_in _ (by omega)
  have K1 : W1.drew.cell? ⟨g, 0, none⟩ = some (.string s) ∧ W1.drew.cell? ⟨g, 1, none⟩ = some (.int .i64 ((k : Int) + 1)) := hR1.both
  have K2 : ((((W1.setCell ⟨w.heap.size, 0, none⟩ (.int .u8 c)).setCell ⟨w.heap.size, 1, none⟩ (.string ⟨#[]⟩)).setCell ⟨w.heap.size, 2, none⟩ (.int .i64 k)).setCell ⟨w.heap.size, 3, none⟩ (.int .i64 ((k : Int) + 1))).drew.cell? ⟨g, 0, none⟩ = some (.string s) ∧ ((((W1.setCell ⟨w.heap.size, 0, none⟩ (.int .u8 c)).setCell ⟨w.heap.size, 1, none⟩ (.string ⟨#[]⟩)).setCell ⟨w.heap.size, 2, none⟩ (.int .i64 k)).setCell ⟨w.heap.size, 3, none⟩ (.int .i64 ((k : Int) + 1))).drew.cell? ⟨g, 1, none⟩ = some (.int .i64 ((k : Int) + 1)) := Rdr.both ((((hR1.far (p := ⟨w.heap.size, 0, none⟩) (Nat.ne_of_lt hgl) _).far (p := ⟨w.heap.size, 1, none⟩) (Nat.ne_of_lt hgl) _).far (p := ⟨w.heap.size, 2, none⟩) (Nat.ne_of_lt hgl) _).far (p := ⟨w.heap.size, 3, none⟩) (Nat.ne_of_lt hgl) _)
  go_region_held3 (fun w' => w'.cell? ⟨g, 0, none⟩ = some (.string s) ∧ w'.cell? ⟨g, 1, none⟩ = some (.int .i64 ((k : Int) + 1))) (first | (with_reducible exact K1) | (with_reducible exact K2)) (fail)
  go_wp2_with fail
  have hF := (((hT1.set_ 0 (.int .u8 c)).set_ 1 (.string ⟨#[]⟩)).set_ 2 (.int .i64 k)).set_ 3 (.int .i64 ((k : Int) + 1))
  have s0 : (World.setCell _ _ _).cell? _ = some (.int .u8 c) := hF.cell 0
  have s1 : (World.setCell _ _ _).cell? _ = some (.string ⟨#[]⟩) := hF.cell 1
  have s2 : (World.setCell _ _ _).cell? _ = some (.int .i64 k) := hF.cell 2
  have s3 : (World.setCell _ _ _).cell? _ = some (.int .i64 ((k : Int) + 1)) := hF.cell 3
  exact bodyPost_ret (v := .tuple #[.agg #[.int .u8 c, .string ⟨#[]⟩, .int .i64 k, .int .i64 ((k : Int) + 1)], .bool true]) (by simp [results, Try.f38, go_sem, s0, s1, s2, s3]) rfl ⟨⟨rfl, (((hR1.far (p := ⟨w.heap.size, 0, none⟩) (Nat.ne_of_lt hgl) _).far (p := ⟨w.heap.size, 1, none⟩) (Nat.ne_of_lt hgl) _).far (p := ⟨w.heap.size, 2, none⟩) (Nat.ne_of_lt hgl) _).far (p := ⟨w.heap.size, 3, none⟩) (Nat.ne_of_lt hgl) _⟩, ((((hO1.far (p := ⟨w.heap.size, 0, none⟩) (Nat.le_refl _) _).far (p := ⟨w.heap.size, 1, none⟩) (Nat.le_refl _) _).far (p := ⟨w.heap.size, 2, none⟩) (Nat.le_refl _) _).far (p := ⟨w.heap.size, 3, none⟩) (Nat.le_refl _) _).drew⟩
end Go.Proofs.Ytjnmcadfaombjaa
