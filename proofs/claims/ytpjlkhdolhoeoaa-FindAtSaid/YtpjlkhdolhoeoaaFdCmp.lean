/- Walks: what the sorts compare by (chapter 03). -/
import Derived.Test.YtpjlkhdolhoeoaaFdSort
namespace Go.Proofs.Ytpjlkhdolhoeoaa
open Go.Shelf Go.RowKit Go.Lib Go.Sort Go.Maps
set_option linter.unusedVariables false
set_option linter.unusedSimpArgs false
theorem lt_cell {w : World} {a : Addr} {v : Value} (h : w.cell? a = some v) : a.block < w.heap.size := by
  by_cases hl : a.block < w.heap.size
  · exact hl
  · exfalso
    have h1 : w.heap[a.block]? = none := Array.getElem?_eq_none (by omega)
    simp [World.cell?, h1] at h
/-- An edge: from, by, to. -/
def Ed (n : Nat) : Type := {e : Nat × UInt8 × Nat // e.2.2 ≤ n}
instance (n : Nat) : Inhabited (Ed n) := ⟨⟨(0, 0, 0), Nat.zero_le _⟩⟩
def edV (e : Nat × UInt8 × Nat) : List Value := [.int .i64 (e.1 : Int), .int .i64 (e.2.1.toNat : Int), .int .i64 (e.2.2 : Int)]
def encE (n : Nat) (e : Ed n) : List Value := edV e.1
theorem encE_len (n : Nat) (x : Ed n) : (encE n x).length = 3 := rfl
theorem encE_one (n : Nat) (x : Ed n) : ∀ v ∈ encE n x, v.oneCell' = true := by
  intro v hv
  simp [encE, edV] at hv
  rcases hv with rfl | rfl | rfl <;> rfl
theorem cmpW (x y : Int) (W : World) : Calls Try.prog 34 #[.int .i64 x, .int .i64 y] W fun e w' => e = .returned (.int .i64 (Lib.compareInt x y)) ∧ W = w' :=
  (Try.cmp_Compare_int x y W).mono fun _ _ h => ⟨h.1, h.2.symm⟩
theorem ltBy {α : Type} (f : α → Nat) (x y : α) : ltOf (fun x y : α => Lib.compareInt (f x : Int) (f y : Int)) x y = decide (f x < f y) := by
  unfold ltOf Lib.compareInt
  by_cases h1 : f x < f y
  · simp [h1]
  · by_cases h2 : f y < f x <;> simp [h1, h2]
theorem swoBy {α : Type} (f : α → Nat) : SWO (ltOf fun x y : α => Lib.compareInt (f x : Int) (f y : Int)) where
  irrefl x := by rw [ltBy]; simp
  trans x y z h1 h2 := by rw [ltBy] at *; simp at *; omega
  ntrans x y z h1 h2 := by rw [ltBy] at *; simp at *; omega
set_option maxRecDepth 100000 in
set_option maxHeartbeats 2000000 in
theorem cmpTo {n : Nat} (x y : Ed n) (W : World) : Calls Try.prog 38 #[.agg (encE n x).toArray, .agg (encE n y).toArray] W fun e w' => e = .returned (.int .i64 (Lib.compareInt (x.1.2.2 : Int) (y.1.2.2 : Int))) ∧ ∃ q os', w' = grow (W.drewN q) os' := by
  obtain ⟨⟨a1, a2, a3⟩, ha⟩ := x
  obtain ⟨⟨b1, b2, b3⟩, hb⟩ := y
  have hcon := fun W' => cmpW (a3 : Int) (b3 : Int) W'
  simp only [encE, edV]
  generalize Lib.compareInt (a3 : Int) (b3 : Int) = r at hcon ⊢
  clear ha hb
  go_enter Try.func38, Try.ntmps38
  go_wp2_with (go_at_call 34; refine (hcon _).mono ?_; rintro e w' ⟨rfl, rfl⟩)
  go_ret
  exact ⟨rfl, 0, _, by rw [alloc_eq_grow, alloc_eq_grow, grow_grow]; rfl⟩
set_option maxRecDepth 100000 in
set_option maxHeartbeats 2000000 in
theorem cmpDep {n c dg N cap : Nat} {dep : List Nat} (x y : Ed n) (W : World) (hc : W.cell? ⟨c, 0, none⟩ = some (.slice (some ⟨dg, 0, none⟩) N cap)) (hd : ∀ (j d : Nat), dep[j]? = some d → W.cell? ⟨dg, j, none⟩ = some (.int .i64 (d : Int))) (hN : dep.length = N) (hn : n < N) (hN4 : N < 4611686018427387904) :
    Calls Try.prog 40 #[.agg (encE n x).toArray, .agg (encE n y).toArray, .pointer (some ⟨c, 0, none⟩)] W fun e w' => e = .returned (.int .i64 (Lib.compareInt ((dep.getD x.1.2.2 0 : Nat) : Int) ((dep.getD y.1.2.2 0 : Nat) : Int))) ∧ ∃ q os', w' = grow (W.drewN q) os' := by
  obtain ⟨⟨a1, a2, a3⟩, ha⟩ := x
  obtain ⟨⟨b1, b2, b3⟩, hb⟩ := y
  simp only at ha hb
  obtain ⟨da, hda⟩ : ∃ d, dep[a3]? = some d := ⟨_, List.getElem?_eq_getElem (by omega)⟩
  obtain ⟨db, hdb⟩ : ∃ d, dep[b3]? = some d := ⟨_, List.getElem?_eq_getElem (by omega)⟩
  have ga : dep.getD a3 0 = da := by rw [List.getD_eq_getElem?_getD, hda]; rfl
  have gb : dep.getD b3 0 = db := by rw [List.getD_eq_getElem?_getD, hdb]; rfl
  simp only [encE, edV, ga, gb]
  have ca := hd _ _ hda
  have cb := hd _ _ hdb
  have la : (a3 : Int) < (N : Int) := by omega
  have lb : (b3 : Int) < (N : Int) := by omega
  have a0 : (0 : Int) ≤ (a3 : Int) := by omega
  have b0 : (0 : Int) ≤ (b3 : Int) := by omega
  have hcon := fun W' => cmpW (da : Int) (db : Int) W'
  generalize Lib.compareInt (da : Int) (db : Int) = r at hcon ⊢
  have HC := Lib.hid hcon
  have cl := lt_cell hc
  have cla := lt_cell ca
  clear ha hb hda hdb ga gb hd hN hn hcon hN4
  go_enter Try.func40, Try.ntmps40
  go_upto_region 1 with fail
  obtain ⟨A1, hA1⟩ : ∃ o : Obj, o = .cells #[.int .i64 (a1 : Int), .int .i64 (a2.toNat : Int), .int .i64 (a3 : Int)] 75 := ⟨_, rfl⟩
  obtain ⟨A2, hA2⟩ : ∃ o : Obj, o = .cells #[.int .i64 (b1 : Int), .int .i64 (b2.toNat : Int), .int .i64 (b3 : Int)] 75 := ⟨_, rfl⟩
  rw [← hA1, ← hA2]
  have k1 : Blk ((W.alloc A1).alloc A2) W.heap.size 75 #[.int .i64 (a1 : Int), .int .i64 (a2.toNat : Int), .int .i64 (a3 : Int)] := by rw [hA1]; exact (Blk.new W _ _).alloc _
  have k2 : Blk ((W.alloc A1).alloc A2) (W.heap.size + 1) 75 #[.int .i64 (b1 : Int), .int .i64 (b2.toNat : Int), .int .i64 (b3 : Int)] := by
    rw [hA2]
    have := Blk.new (W.alloc A1) 75 #[.int .i64 (b1 : Int), .int .i64 (b2.toNat : Int), .int .i64 (b3 : Int)]
    rwa [show (W.alloc A1).heap.size = W.heap.size + 1 by simp] at this
  have f1 := k1.cell 2
  have f2 := k2.cell 2
  have hbl : Below W.heap.size W ((W.alloc A1).alloc A2) := ((Below.refl _ W).alloc (Nat.le_refl _) _).alloc (by simp) _
  have c0 : ((W.alloc A1).alloc A2).cell? ⟨c, 0, none⟩ = some (.slice (some ⟨dg, 0, none⟩) N cap) := (World.cell?_of_block (hbl.block c cl)).trans hc
  have c1 : ((W.alloc A1).alloc A2).cell? ⟨dg, a3, none⟩ = some (.int .i64 (da : Int)) := (World.cell?_of_block (hbl.block dg cla)).trans ca
  have c2 : ((W.alloc A1).alloc A2).cell? ⟨dg, b3, none⟩ = some (.int .i64 (db : Int)) := (World.cell?_of_block (hbl.block dg cla)).trans cb
  have HW := Lib.hid (show (W.alloc A1).alloc A2 = grow W (#[A1] ++ #[A2]) by rw [alloc_eq_grow, alloc_eq_grow, grow_grow])
  clear hc ca cb hA1 hA2 k1 k2 hbl cl cla
  generalize (W.alloc A1).alloc A2 = W2 at f1 f2 c0 c1 c2 HW ⊢
  go_quiet ((go_at_call 34; exact quiet_left (HC.out _)))
  go_wp2_with fail
  go_ret
  exact ⟨rfl, _, _, by rw [HW.out]; rfl⟩
end Go.Proofs.Ytpjlkhdolhoeoaa
