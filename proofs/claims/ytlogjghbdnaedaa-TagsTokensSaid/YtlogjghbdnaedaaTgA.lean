/- Walks: the program's tags reader: done, take, letter, blank, while (chapter 11). -/
import Derived.Test.YtlogjghbdnaedaaTgP
import Derived.Test.YtlogjghbdnaedaaShelf
import Derived.Test.YtlogjghbdnaedaaOctB
import Derived.Deep.DeepCutAuto
import Derived.StillTailTactics
import Derived.Outline
namespace Go.Proofs.Ytlogjghbdnaedaa
open Go.RowKit
set_option linter.unusedVariables false
set_option linter.unusedSimpArgs false
/-- The reader in memory: a text, and a place in it. -/
def Rdr (w : World) (g : Nat) (s : ByteArray) (k : Nat) : Prop := Blk w g 53 #[.string s, .int .i64 k]
section
variable {w w' : World} {g : Nat} {s : ByteArray} {k : Nat}
theorem Rdr.c0 (h : Rdr w g s k) : w.cell? ⟨g, 0, none⟩ = some (.string s) := Blk.cell h 0
theorem Rdr.c1 (h : Rdr w g s k) : w.cell? ⟨g, 1, none⟩ = some (.int .i64 k) := Blk.cell h 1
theorem Rdr.f1 (h : Rdr w g s k) : w.frozen? ⟨g, 1, none⟩ = false := Blk.frozen h 1
theorem Rdr.both (h : Rdr w g s k) : w.cell? ⟨g, 0, none⟩ = some (.string s) ∧ w.cell? ⟨g, 1, none⟩ = some (.int .i64 k) := ⟨h.c0, h.c1⟩
theorem Rdr.set (h : Rdr w g s k) (j : Nat) : Rdr (w.setCell ⟨g, 1, none⟩ (.int .i64 j)) g s j := Blk.set_ h 1 (.int .i64 j)
theorem Rdr.alloc (h : Rdr w g s k) (o : Obj) : Rdr (w.alloc o) g s k := Blk.alloc h o
theorem Rdr.below (h : Rdr w g s k) {B : Nat} (hb : Below B w w') (hg : g < B) : Rdr w' g s k := Blk.below h hb hg
theorem Rdr.bel (h : Rdr w g s k) (hb : Below w.heap.size w w') : Rdr w' g s k := Blk.below h hb (Blk.lt h)
theorem Rdr.lt (h : Rdr w g s k) : g < w.heap.size := Blk.lt h
theorem Rdr.drew (h : Rdr w g s k) : Rdr w.drew g s k := h
end
theorem Only.alloc {g : Nat} {a w : World} (h : Only g a w) (o : Obj) : Only g a (w.alloc o) :=
  ⟨h.os, h.tape, h.output, Nat.le_trans h.size (by simp), fun k hk hn => (Below.heap_alloc w o k (Nat.lt_of_lt_of_le hk h.size)).trans (h.block k hk hn)⟩
theorem Only.bel {g : Nat} {a w w' : World} (h : Only g a w) (hb : Below w.heap.size w w') : Only g a w' := h.trans (Only.of_below hb)
/-- A store into a block that is new. -/
theorem Only.far {g : Nat} {a w : World} (h : Only g a w) {p : Addr} (hp : a.heap.size ≤ p.block) (u : Value) : Only g a (w.setCell p u) :=
  ⟨h.os, h.tape, h.output, by simpa [World.setCell] using h.size, fun k hk hn => (Below.heap_setCell w p u k (by omega)).trans (h.block k hk hn)⟩
/-- Where a reader stands. -/
def atOf (w : World) (g : Nat) : Nat := match w.cell? ⟨g, 1, none⟩ with | some (.int _ q) => q.toNat | _ => 0
theorem Rdr.at_ {w : World} {g : Nat} {s : ByteArray} {k : Nat} (h : Rdr w g s k) : atOf w g = k := by
  unfold atOf; rw [h.c1]; simp
theorem bt_out {l : List UInt8} {k : Nat} (h : l.length ≤ k) : bt l k = 0 := by
  simp [bt, List.getD_eq_getElem?_getD, List.getElem?_eq_none h]
set_option maxHeartbeats 1000000 in
theorem tdone (g k : Nat) (s : ByteArray) (w : World) (hR : Rdr w g s k) (hk : k ≤ 1000000) (hs : s.size ≤ 1000000) :
    Calls Try.prog 24 #[.pointer (some ⟨g, 0, none⟩)] w fun e w' => e = .returned (.bool (decide (s.size ≤ k))) ∧ Below w.heap.size w w' := by
  by_cases hlt : s.size ≤ k
  · have hd : decide (s.size ≤ k) = true := decide_eq_true hlt
    rw [hd]
    go_enter Try.func24, Try.ntmps24
    go_wp2_with fail
    go_region_held3 (fun w' => w'.cell? ⟨g, 0, none⟩ = some (.string s) ∧ w'.cell? ⟨g, 1, none⟩ = some (.int .i64 k)) (exact hR.both) (fail)
    go_wp2_with fail
    go_ret
    exact ⟨rfl, (Below.refl w.heap.size w).drew⟩
  · have hd : decide (s.size ≤ k) = false := decide_eq_false hlt
    rw [hd]
    go_enter Try.func24, Try.ntmps24
    go_wp2_with fail
    go_region_held3 (fun w' => w'.cell? ⟨g, 0, none⟩ = some (.string s) ∧ w'.cell? ⟨g, 1, none⟩ = some (.int .i64 k)) (exact hR.both) (fail)
    go_wp2_with fail
    go_ret
    exact ⟨rfl, (Below.refl w.heap.size w).drew⟩
theorem done_no (g k : Nat) (s : ByteArray) (w : World) (hR : Rdr w g s k) (hs : s.size ≤ 1000000) (h : k < s.size) :
    Calls Try.prog 24 #[.pointer (some ⟨g, 0, none⟩)] w fun e w' => e = .returned (.bool false) ∧ Below w.heap.size w w' := by
  have := tdone g k s w hR (by omega) hs
  rwa [decide_eq_false (by omega : ¬ s.size ≤ k)] at this
theorem done_yes (g k : Nat) (s : ByteArray) (w : World) (hR : Rdr w g s k) (hk : k ≤ 1000000) (hs : s.size ≤ 1000000) (h : s.size ≤ k) :
    Calls Try.prog 24 #[.pointer (some ⟨g, 0, none⟩)] w fun e w' => e = .returned (.bool true) ∧ Below w.heap.size w w' := by
  have := tdone g k s w hR hk hs
  rwa [decide_eq_true h] at this
theorem prefix_at (s p : ByteArray) (k : Nat) (hk : k ≤ s.size) (w : World) :
    Calls Try.prog 49 #[.string (s.extract k s.size), .string p] w fun e w' => e = .returned (.bool (atS s.data.toList p.data.toList k)) ∧ w = w' := by
  have hl := sz_len s
  have he : Lib.hasPrefix (s.extract k s.size).data.toList p.data.toList = atS s.data.toList p.data.toList k := by
    rw [hasPrefix_iff, ← ext_eq s k s.size (Nat.le_refl _), strOf_list]
    unfold atS
    have h2 : (s.data.toList.drop k).take (s.size - k) = s.data.toList.drop k := List.take_of_length_le (by rw [List.length_drop]; omega)
    rw [decide_eq_true (by omega : k ≤ s.data.toList.length), Bool.true_and, h2]
  rw [← he]
  exact (Try.strings_HasPrefix _ _ w).mono fun e w' ⟨a, b⟩ => ⟨a, b.symm⟩
set_option maxRecDepth 100000 in
set_option maxHeartbeats 2000000 in
theorem ttake (g k : Nat) (s p : ByteArray) (w : World) (hR : Rdr w g s k) (hk : k ≤ s.size) (hs : s.size ≤ 1000000) (hp : p.size ≤ 1000000) (b : Bool) (hb : atS s.data.toList p.data.toList k = b) :
    Calls Try.prog 33 #[.pointer (some ⟨g, 0, none⟩), .string p] w fun e w' => e = .returned (.bool b) ∧ Rdr w' g s (if b then k + p.size else k) ∧ Only g w w' := by
  have HI := Lib.hid (fun w => prefix_at s p k hk w)
  rw [hb] at HI
  clear hb
  cases b
  · go_enter Try.func33, Try.ntmps33
    go_wp2_with fail
    go_region_held3 (fun w' => w'.cell? ⟨g, 0, none⟩ = some (.string s) ∧ w'.cell? ⟨g, 1, none⟩ = some (.int .i64 k)) (exact hR.both) ((go_at_call 49; refine (HI.out _).mono ?_; rintro e w' ⟨rfl, rfl⟩))
    go_wp2_with fail
    go_ret
    exact ⟨rfl, hR, (Only.refl g w).drew⟩
  · go_enter Try.func33, Try.ntmps33
    go_wp2_with fail
    go_region_held3 (fun w' => w'.cell? ⟨g, 0, none⟩ = some (.string s) ∧ w'.cell? ⟨g, 1, none⟩ = some (.int .i64 k)) (exact hR.both) ((go_at_call 49; refine (HI.out _).mono ?_; rintro e w' ⟨rfl, rfl⟩))
    have c1 : w.drew.cell? ⟨g, 1, none⟩ = some (.int .i64 k) := hR.c1
    have f1 : w.drew.frozen? ⟨g, 1, none⟩ = false := hR.f1
    go_wp2_with fail
    go_ret
    exact ⟨rfl, Rdr.set hR (k + p.size), (Only.refl g w).drew.set 1 _⟩
theorem tletter (c : Nat) (w : World) (hc : c < 256) :
    Calls Try.prog 35 #[.int .u8 c] w fun e w' => e = .returned (.bool (nameB c)) ∧ w = w' := by
  have key : ∀ b : Bool, ((b = true) ↔ nameK c) → b = nameB c := fun b h => by
    unfold nameB
    by_cases hr : nameK c
    · rw [decide_eq_true hr]; exact h.2 hr
    · rw [decide_eq_false hr]; exact Bool.eq_false_iff.2 fun x => hr (h.1 x)
  unfold nameK at key
  by_cases h1 : c < 48
  · have e1 : nameB c = false := (key false (by simp; omega)).symm
    rw [e1]
    clear key e1
    have d1 : decide ((c : Int) ≤ 57) = true := by simp; omega
    have d2 : decide ((c : Int) ≤ 122) = true := by simp; omega
    go_enter Try.func35, Try.ntmps35
    go_wp2
    go_ret
    exact ⟨rfl, rfl⟩
  by_cases h2 : c ≤ 57
  · have e1 : nameB c = true := (key true (by simp; omega)).symm
    rw [e1]
    clear key e1
    have d1 : decide ((c : Int) ≤ 57) = true := by simp; omega
    have d2 : decide ((c : Int) ≤ 122) = true := by simp; omega
    go_enter Try.func35, Try.ntmps35
    go_wp2
    go_ret
    exact ⟨rfl, rfl⟩
  by_cases h3 : c < 97
  · have e1 : nameB c = false := (key false (by simp; omega)).symm
    rw [e1]
    clear key e1
    have d1 : decide ((c : Int) ≤ 57) = false := by simp; omega
    have d2 : decide ((c : Int) ≤ 122) = true := by simp; omega
    go_enter Try.func35, Try.ntmps35
    go_wp2
    go_ret
    exact ⟨rfl, rfl⟩
  by_cases h4 : c ≤ 122
  · have e1 : nameB c = true := (key true (by simp; omega)).symm
    rw [e1]
    clear key e1
    have d1 : decide ((c : Int) ≤ 57) = false := by simp; omega
    have d2 : decide ((c : Int) ≤ 122) = true := by simp; omega
    go_enter Try.func35, Try.ntmps35
    go_wp2
    go_ret
    exact ⟨rfl, rfl⟩
  · have e1 : nameB c = false := (key false (by simp; omega)).symm
    rw [e1]
    clear key e1
    have d1 : decide ((c : Int) ≤ 57) = false := by simp; omega
    have d2 : decide ((c : Int) ≤ 122) = false := by simp; omega
    go_enter Try.func35, Try.ntmps35
    go_wp2
    go_ret
    exact ⟨rfl, rfl⟩
theorem tblank (c : Nat) (w : World) (hc : c < 256) :
    Calls Try.prog 51 #[.int .u8 c] w fun e w' => e = .returned (.bool (gapB c)) ∧ w = w' := by
  by_cases h : gapK c
  · have e1 : gapB c = true := decide_eq_true h
    rw [e1]
    unfold gapK at h
    clear e1
    rcases h with rfl | rfl | rfl
    all_goals
      go_enter Try.func51, Try.ntmps51
      go_wp2
      go_ret
      exact ⟨rfl, rfl⟩
  · have e1 : gapB c = false := decide_eq_false h
    rw [e1]
    unfold gapK at h
    have g1 : ((c : Int) == 32) = false := by simp; omega
    have g2 : ((c : Int) == 9) = false := by simp; omega
    have g3 : ((c : Int) == 10) = false := by simp; omega
    clear h e1
    go_enter Try.func51, Try.ntmps51
    go_wp2
    go_ret
    exact ⟨rfl, rfl⟩
set_option maxRecDepth 100000 in
set_option maxHeartbeats 4000000 in
theorem twhileL (g k : Nat) (s : ByteArray) (w : World) (hR : Rdr w g s k) (hk : k ≤ s.size) (hs : s.size ≤ 1000000) :
    Calls Try.prog 34 #[.pointer (some ⟨g, 0, none⟩), .func (.func 35) #[] #[]] w fun e w' => e = .returned (.string (strOf (runT nameB s.data.toList k))) ∧ Rdr w' g s (runE nameB s.data.toList k) ∧ Only g w w' := by
  have hl := Lib.hid (sz_len s)
  have c1 := hR.c1
  have HR0 := Lib.hid hR
  clear hR
  go_enter Try.func34, Try.ntmps34
  go_wp2_with fail
  go_loopw [13] (fun z wr => ∃ j : Nat, k ≤ j ∧ j ≤ s.size ∧ runE nameB s.data.toList k = runE nameB s.data.toList j ∧ Rdr wr g s j ∧ Only g w wr) (fun z wr => s.size - atOf wr g)
  case atStart => exact ⟨k, Nat.le_refl _, hk, rfl, HR0.out, Only.refl g w⟩
  case round =>
    obtain ⟨j, hkj, hj, he, hR3, hO3⟩ := hrel
    have HE := Lib.hid he
    have HO := Lib.hid hO3
    have HR := Lib.hid hR3
    clear he hO3 c1 hR3
    have hR4 : Rdr wr.drew g s j := HR.out.drew
    by_cases hlt : j < s.size
    · have hx := bt_byte s j hlt
      have y0 := bt_lt s.data.toList j
      have HD := Lib.hid (fun w hR => done_no g j s w hR hs hlt)
      cases hd : nameB (bt s.data.toList j) with
      | true =>
        have HS : Hid (runE nameB s.data.toList k = runE nameB s.data.toList (j + 1)) := by show _ = _; rw [HE.out, runE_yes (by rw [← hl.out]; exact hlt) hd]
        have HF := Lib.hid (fun w => tletter (bt s.data.toList j) w y0)
        rw [hd] at HF
        clear hd
        generalize bt s.data.toList j = c at *
        have K1 := hR4.both
        go_wp2_with fail
        go_region_held3 (fun w' => w'.cell? ⟨g, 0, none⟩ = some (.string s) ∧ w'.cell? ⟨g, 1, none⟩ = some (.int .i64 j)) (first | (with_reducible exact K1) | (with_reducible exact K2)) ((first | (go_at_call 24; refine (HD.out _ hR4).mono ?_; rintro e w5 ⟨rfl, b5⟩; have K2 := (hR4.bel b5).both) | (go_at_call 35; refine (HF.out _).mono ?_; rintro e w' ⟨rfl, rfl⟩)))
        have hR5 := hR4.bel b5
        have HR5 := Lib.hid hR5
        have c1 := hR5.c1
        have f1 := hR5.f1
        clear K1 K2 hR5 hR4
        have HO5 := Lib.hid (HO.out.drew.bel b5)
        clear b5
        go_wp2_with fail
        go_roundw
        case rel => exact ⟨j + 1, by omega, by omega, HS.out, HR5.out.set (j + 1), HO5.out.set 1 _⟩
        case measure =>
          have h2 := (HR5.out.set (j + 1)).at_
          rw [show (((j + 1 : Nat)) : Int) = (j : Int) + 1 by omega] at h2
          rw [HR.out.at_, h2]; omega
      | false =>
        have HS : Hid (runE nameB s.data.toList k = j) := by show _ = _; rw [HE.out, runE_no hd]
        have HT : Hid (runT nameB s.data.toList k = (s.extract k j).data.toList) := by
          show _ = _
          unfold runT
          rw [HS.out, ← ext_eq s k j hj, strOf_list]
        have HF := Lib.hid (fun w => tletter (bt s.data.toList j) w y0)
        rw [hd] at HF
        clear hd
        generalize bt s.data.toList j = c at *
        have K1 := hR4.both
        go_wp2_with fail
        go_region_held3 (fun w' => w'.cell? ⟨g, 0, none⟩ = some (.string s) ∧ w'.cell? ⟨g, 1, none⟩ = some (.int .i64 j)) (first | (with_reducible exact K1) | (with_reducible exact K2)) ((first | (go_at_call 24; refine (HD.out _ hR4).mono ?_; rintro e w5 ⟨rfl, b5⟩; have K2 := (hR4.bel b5).both) | (go_at_call 35; refine (HF.out _).mono ?_; rintro e w' ⟨rfl, rfl⟩)))
        have HR5 := Lib.hid (hR4.bel b5)
        have HO5 := Lib.hid (HO.out.drew.bel b5)
        clear K1 K2 hR4 b5
        go_wp2_with fail
        go_region_held3 (fun w' => w'.cell? ⟨g, 0, none⟩ = some (.string s) ∧ w'.cell? ⟨g, 1, none⟩ = some (.int .i64 j)) (exact HR5.out.both) (fail)
        go_wp2_with fail
        go_ret
        exact ⟨by rw [HT.out, strOf_data]; rfl, by rw [HS.out]; exact HR5.out, HO5.out.drew⟩
    · obtain rfl : j = s.size := by omega
      have HS : Hid (runE nameB s.data.toList k = s.size) := by show _ = _; rw [HE.out, runE_out _ _ _ (by rw [← hl.out]; exact Nat.le_refl _)]
      have HT : Hid (runT nameB s.data.toList k = (s.extract k s.size).data.toList) := by
        show _ = _
        unfold runT
        rw [HS.out, ← ext_eq s k s.size hj, strOf_list]
      have HD := Lib.hid (fun w hR => done_yes g s.size s w hR (by omega) hs (Nat.le_refl _))
      have K1 := hR4.both
      go_wp2_with fail
      refine wp_region_held_drew (S := (fun w' => w'.cell? ⟨g, 0, none⟩ = some (.string s) ∧ w'.cell? ⟨g, 1, none⟩ = some (.int .i64 s.size))) (by kernel_rfl) (by exact K1) (fun hHeld => ?_)
      refine wpAnyH_take (i := 0) (v := ?_) rfl (by kernel_rfl) (by kernel_rfl) (by kernel_rfl) (fun _ _ _ h => h) (Or.inl ⟨by rfl, ?_⟩) (by assumption) ?_
      rotate_left
      · intro w hSw
        go_simp
        try rfl
      simp only [Act.put, List.setIfInBounds_toArray, List.set_cons_zero, List.set_cons_succ, List.getElem_toArray, List.getElem_cons_succ, List.getElem_cons_zero]
      refine wpAnyH_ready (rs := [1]) (by kernel_rfl) (by simp) ?_
      refine AllReadyH.cons rfl (fun K9 hK => ?_) AllReadyH.nil
      go_simp
      go_at_call 24
      refine (HD.out _ hR4).mono ?_
      rintro e w5 ⟨rfl, b5⟩
      have K2 := (hR4.bel b5).both

      try go_wp2_with fail
      refine hK.out _ _ (by exact K2) (fun hHeld => ?_)
      clear hK K9
      try simp only [Act.put, List.setIfInBounds_toArray, List.set_cons_zero, List.set_cons_succ, List.getElem_toArray, List.getElem_cons_succ, List.getElem_cons_zero]
      refine wpAnyH_take (i := 2) (v := ?_) rfl (by kernel_rfl) (by kernel_rfl) (by kernel_rfl) (fun _ _ _ h => h) (Or.inl ⟨by rfl, ?_⟩) (by assumption) ?_
      rotate_left
      · intro w hSw
        go_simp
        try rfl
      simp only [Act.put, List.setIfInBounds_toArray, List.set_cons_zero, List.set_cons_succ, List.getElem_toArray, List.getElem_cons_succ, List.getElem_cons_zero]
      refine wpAnyH_take (i := 3) (v := ?_) rfl (by kernel_rfl) (by kernel_rfl) (by kernel_rfl) (fun _ _ _ h => h) (Or.inl ⟨by rfl, ?_⟩) (by assumption) ?_
      rotate_left
      · intro w hSw
        go_simp
        try rfl
      simp only [Act.put, List.setIfInBounds_toArray, List.set_cons_zero, List.set_cons_succ, List.getElem_toArray, List.getElem_cons_succ, List.getElem_cons_zero]
      refine wpAnyH_take (i := 4) (v := undef) rfl (by kernel_rfl) (by kernel_rfl) (by kernel_rfl) (fun _ _ _ h => h) (Or.inr ⟨by rfl, rfl⟩) (by assumption) ?_
      simp only [Act.put, List.setIfInBounds_toArray, List.set_cons_zero, List.set_cons_succ, List.getElem_toArray, List.getElem_cons_succ, List.getElem_cons_zero]
      refine wpAnyH_take (i := 5) (v := undef) rfl (by kernel_rfl) (by kernel_rfl) (by kernel_rfl) (fun _ _ _ h => h) (Or.inr ⟨by rfl, rfl⟩) (by assumption) ?_
      simp only [Act.put, List.setIfInBounds_toArray, List.set_cons_zero, List.set_cons_succ, List.getElem_toArray, List.getElem_cons_succ, List.getElem_cons_zero]
      refine wpAnyH_take (i := 6) (v := undef) rfl (by kernel_rfl) (by kernel_rfl) (by kernel_rfl) (fun _ _ _ h => h) (Or.inr ⟨by rfl, rfl⟩) (by assumption) ?_
      simp only [Act.put, List.setIfInBounds_toArray, List.set_cons_zero, List.set_cons_succ, List.getElem_toArray, List.getElem_cons_succ, List.getElem_cons_zero]
      refine wpAnyH_take (i := 7) (v := undef) rfl (by kernel_rfl) (by kernel_rfl) (by kernel_rfl) (fun _ _ _ h => h) (Or.inr ⟨by rfl, rfl⟩) (by assumption) ?_
      simp only [Act.put, List.setIfInBounds_toArray, List.set_cons_zero, List.set_cons_succ, List.getElem_toArray, List.getElem_cons_succ, List.getElem_cons_zero]
      refine wpAnyH_take (i := 8) (v := undef) rfl (by kernel_rfl) (by kernel_rfl) (by kernel_rfl) (fun _ _ _ h => h) (Or.inr ⟨by rfl, rfl⟩) (by assumption) ?_
      simp only [Act.put, List.setIfInBounds_toArray, List.set_cons_zero, List.set_cons_succ, List.getElem_toArray, List.getElem_cons_succ, List.getElem_cons_zero]
      refine wpAnyH_take (i := 9) (v := undef) rfl (by kernel_rfl) (by kernel_rfl) (by kernel_rfl) (fun _ _ _ h => h) (Or.inr ⟨by rfl, rfl⟩) (by assumption) ?_
      simp only [Act.put, List.setIfInBounds_toArray, List.set_cons_zero, List.set_cons_succ, List.getElem_toArray, List.getElem_cons_succ, List.getElem_cons_zero]
      refine wpAnyH_take (i := 10) (v := undef) rfl (by kernel_rfl) (by kernel_rfl) (by kernel_rfl) (fun _ _ _ h => h) (Or.inr ⟨by rfl, rfl⟩) (by assumption) ?_
      simp only [Act.put, List.setIfInBounds_toArray, List.set_cons_zero, List.set_cons_succ, List.getElem_toArray, List.getElem_cons_succ, List.getElem_cons_zero]
      refine wpAnyH_take (i := 11) (v := undef) rfl (by kernel_rfl) (by kernel_rfl) (by kernel_rfl) (fun _ _ _ h => h) (Or.inr ⟨by rfl, rfl⟩) (by assumption) ?_
      simp only [Act.put, List.setIfInBounds_toArray, List.set_cons_zero, List.set_cons_succ, List.getElem_toArray, List.getElem_cons_succ, List.getElem_cons_zero]
      refine wpAnyH_take (i := 12) (v := undef) rfl (by kernel_rfl) (by kernel_rfl) (by kernel_rfl) (fun _ _ _ h => h) (Or.inr ⟨by rfl, rfl⟩) (by assumption) ?_
      simp only [Act.put, List.setIfInBounds_toArray, List.set_cons_zero, List.set_cons_succ, List.getElem_toArray, List.getElem_cons_succ, List.getElem_cons_zero]
      refine wpAnyH_take (i := 13) (v := undef) rfl (by kernel_rfl) (by kernel_rfl) (by kernel_rfl) (fun _ _ _ h => h) (Or.inr ⟨by rfl, rfl⟩) (by assumption) ?_
      simp only [Act.put, List.setIfInBounds_toArray, List.set_cons_zero, List.set_cons_succ, List.getElem_toArray, List.getElem_cons_succ, List.getElem_cons_zero]
      refine wpAnyH_take (i := 14) (v := undef) rfl (by kernel_rfl) (by kernel_rfl) (by kernel_rfl) (fun _ _ _ h => h) (Or.inr ⟨by rfl, rfl⟩) (by assumption) ?_
      simp only [Act.put, List.setIfInBounds_toArray, List.set_cons_zero, List.set_cons_succ, List.getElem_toArray, List.getElem_cons_succ, List.getElem_cons_zero]
      refine wpAnyH_take (i := 15) (v := ?_) rfl (by kernel_rfl) (by kernel_rfl) (by kernel_rfl) (fun _ _ _ h => h) (Or.inl ⟨by rfl, ?_⟩) (by assumption) ?_
      rotate_left
      · intro w hSw
        go_simp
        try rfl
      simp only [Act.put, List.setIfInBounds_toArray, List.set_cons_zero, List.set_cons_succ, List.getElem_toArray, List.getElem_cons_succ, List.getElem_cons_zero]
      refine wpAnyH_done (by kernel_rfl) ?_ _
      clear hHeld
      have HR5 := Lib.hid (hR4.bel b5)
      have HO5 := Lib.hid (HO.out.drew.bel b5)
      clear K1 K2 hR4 b5
      go_wp2_with fail
      go_region_held3 (fun w' => w'.cell? ⟨g, 0, none⟩ = some (.string s) ∧ w'.cell? ⟨g, 1, none⟩ = some (.int .i64 s.size)) (exact HR5.out.both) (fail)
      go_wp2_with fail
      go_ret
      exact ⟨by rw [HT.out, strOf_data]; rfl, by rw [HS.out]; exact HR5.out, HO5.out.drew⟩
set_option maxRecDepth 100000 in
set_option maxHeartbeats 4000000 in
theorem twhileG (g k : Nat) (s : ByteArray) (w : World) (hR : Rdr w g s k) (hk : k ≤ s.size) (hs : s.size ≤ 1000000) :
    Calls Try.prog 34 #[.pointer (some ⟨g, 0, none⟩), .func (.func 51) #[] #[]] w fun e w' => e = .returned (.string (strOf (runT gapB s.data.toList k))) ∧ Rdr w' g s (runE gapB s.data.toList k) ∧ Only g w w' := by
  have hl := Lib.hid (sz_len s)
  have c1 := hR.c1
  have HR0 := Lib.hid hR
  clear hR
  go_enter Try.func34, Try.ntmps34
  go_wp2_with fail
  go_loopw [13] (fun z wr => ∃ j : Nat, k ≤ j ∧ j ≤ s.size ∧ runE gapB s.data.toList k = runE gapB s.data.toList j ∧ Rdr wr g s j ∧ Only g w wr) (fun z wr => s.size - atOf wr g)
  case atStart => exact ⟨k, Nat.le_refl _, hk, rfl, HR0.out, Only.refl g w⟩
  case round =>
    obtain ⟨j, hkj, hj, he, hR3, hO3⟩ := hrel
    have HE := Lib.hid he
    have HO := Lib.hid hO3
    have HR := Lib.hid hR3
    clear he hO3 c1 hR3
    have hR4 : Rdr wr.drew g s j := HR.out.drew
    by_cases hlt : j < s.size
    · have hx := bt_byte s j hlt
      have y0 := bt_lt s.data.toList j
      have HD := Lib.hid (fun w hR => done_no g j s w hR hs hlt)
      cases hd : gapB (bt s.data.toList j) with
      | true =>
        have HS : Hid (runE gapB s.data.toList k = runE gapB s.data.toList (j + 1)) := by show _ = _; rw [HE.out, runE_yes (by rw [← hl.out]; exact hlt) hd]
        have HF := Lib.hid (fun w => tblank (bt s.data.toList j) w y0)
        rw [hd] at HF
        clear hd
        generalize bt s.data.toList j = c at *
        have K1 := hR4.both
        go_wp2_with fail
        go_region_held3 (fun w' => w'.cell? ⟨g, 0, none⟩ = some (.string s) ∧ w'.cell? ⟨g, 1, none⟩ = some (.int .i64 j)) (first | (with_reducible exact K1) | (with_reducible exact K2)) ((first | (go_at_call 24; refine (HD.out _ hR4).mono ?_; rintro e w5 ⟨rfl, b5⟩; have K2 := (hR4.bel b5).both) | (go_at_call 51; refine (HF.out _).mono ?_; rintro e w' ⟨rfl, rfl⟩)))
        have hR5 := hR4.bel b5
        have HR5 := Lib.hid hR5
        have c1 := hR5.c1
        have f1 := hR5.f1
        clear K1 K2 hR5 hR4
        have HO5 := Lib.hid (HO.out.drew.bel b5)
        clear b5
        go_wp2_with fail
        go_roundw
        case rel => exact ⟨j + 1, by omega, by omega, HS.out, HR5.out.set (j + 1), HO5.out.set 1 _⟩
        case measure =>
          have h2 := (HR5.out.set (j + 1)).at_
          rw [show (((j + 1 : Nat)) : Int) = (j : Int) + 1 by omega] at h2
          rw [HR.out.at_, h2]; omega
      | false =>
        have HS : Hid (runE gapB s.data.toList k = j) := by show _ = _; rw [HE.out, runE_no hd]
        have HT : Hid (runT gapB s.data.toList k = (s.extract k j).data.toList) := by
          show _ = _
          unfold runT
          rw [HS.out, ← ext_eq s k j hj, strOf_list]
        have HF := Lib.hid (fun w => tblank (bt s.data.toList j) w y0)
        rw [hd] at HF
        clear hd
        generalize bt s.data.toList j = c at *
        have K1 := hR4.both
        go_wp2_with fail
        go_region_held3 (fun w' => w'.cell? ⟨g, 0, none⟩ = some (.string s) ∧ w'.cell? ⟨g, 1, none⟩ = some (.int .i64 j)) (first | (with_reducible exact K1) | (with_reducible exact K2)) ((first | (go_at_call 24; refine (HD.out _ hR4).mono ?_; rintro e w5 ⟨rfl, b5⟩; have K2 := (hR4.bel b5).both) | (go_at_call 51; refine (HF.out _).mono ?_; rintro e w' ⟨rfl, rfl⟩)))
        have HR5 := Lib.hid (hR4.bel b5)
        have HO5 := Lib.hid (HO.out.drew.bel b5)
        clear K1 K2 hR4 b5
        go_wp2_with fail
        go_region_held3 (fun w' => w'.cell? ⟨g, 0, none⟩ = some (.string s) ∧ w'.cell? ⟨g, 1, none⟩ = some (.int .i64 j)) (exact HR5.out.both) (fail)
        go_wp2_with fail
        go_ret
        exact ⟨by rw [HT.out, strOf_data]; rfl, by rw [HS.out]; exact HR5.out, HO5.out.drew⟩
    · obtain rfl : j = s.size := by omega
      have HS : Hid (runE gapB s.data.toList k = s.size) := by show _ = _; rw [HE.out, runE_out _ _ _ (by rw [← hl.out]; exact Nat.le_refl _)]
      have HT : Hid (runT gapB s.data.toList k = (s.extract k s.size).data.toList) := by
        show _ = _
        unfold runT
        rw [HS.out, ← ext_eq s k s.size hj, strOf_list]
      have HD := Lib.hid (fun w hR => done_yes g s.size s w hR (by omega) hs (Nat.le_refl _))
      have K1 := hR4.both
      go_wp2_with fail
      refine wp_region_held_drew (S := (fun w' => w'.cell? ⟨g, 0, none⟩ = some (.string s) ∧ w'.cell? ⟨g, 1, none⟩ = some (.int .i64 s.size))) (by kernel_rfl) (by exact K1) (fun hHeld => ?_)
      refine wpAnyH_take (i := 0) (v := ?_) rfl (by kernel_rfl) (by kernel_rfl) (by kernel_rfl) (fun _ _ _ h => h) (Or.inl ⟨by rfl, ?_⟩) (by assumption) ?_
      rotate_left
      · intro w hSw
        go_simp
        try rfl
      simp only [Act.put, List.setIfInBounds_toArray, List.set_cons_zero, List.set_cons_succ, List.getElem_toArray, List.getElem_cons_succ, List.getElem_cons_zero]
      refine wpAnyH_ready (rs := [1]) (by kernel_rfl) (by simp) ?_
      refine AllReadyH.cons rfl (fun K9 hK => ?_) AllReadyH.nil
      go_simp
      go_at_call 24
      refine (HD.out _ hR4).mono ?_
      rintro e w5 ⟨rfl, b5⟩
      have K2 := (hR4.bel b5).both

      try go_wp2_with fail
      refine hK.out _ _ (by exact K2) (fun hHeld => ?_)
      clear hK K9
      try simp only [Act.put, List.setIfInBounds_toArray, List.set_cons_zero, List.set_cons_succ, List.getElem_toArray, List.getElem_cons_succ, List.getElem_cons_zero]
      refine wpAnyH_take (i := 2) (v := ?_) rfl (by kernel_rfl) (by kernel_rfl) (by kernel_rfl) (fun _ _ _ h => h) (Or.inl ⟨by rfl, ?_⟩) (by assumption) ?_
      rotate_left
      · intro w hSw
        go_simp
        try rfl
      simp only [Act.put, List.setIfInBounds_toArray, List.set_cons_zero, List.set_cons_succ, List.getElem_toArray, List.getElem_cons_succ, List.getElem_cons_zero]
      refine wpAnyH_take (i := 3) (v := ?_) rfl (by kernel_rfl) (by kernel_rfl) (by kernel_rfl) (fun _ _ _ h => h) (Or.inl ⟨by rfl, ?_⟩) (by assumption) ?_
      rotate_left
      · intro w hSw
        go_simp
        try rfl
      simp only [Act.put, List.setIfInBounds_toArray, List.set_cons_zero, List.set_cons_succ, List.getElem_toArray, List.getElem_cons_succ, List.getElem_cons_zero]
      refine wpAnyH_take (i := 4) (v := undef) rfl (by kernel_rfl) (by kernel_rfl) (by kernel_rfl) (fun _ _ _ h => h) (Or.inr ⟨by rfl, rfl⟩) (by assumption) ?_
      simp only [Act.put, List.setIfInBounds_toArray, List.set_cons_zero, List.set_cons_succ, List.getElem_toArray, List.getElem_cons_succ, List.getElem_cons_zero]
      refine wpAnyH_take (i := 5) (v := undef) rfl (by kernel_rfl) (by kernel_rfl) (by kernel_rfl) (fun _ _ _ h => h) (Or.inr ⟨by rfl, rfl⟩) (by assumption) ?_
      simp only [Act.put, List.setIfInBounds_toArray, List.set_cons_zero, List.set_cons_succ, List.getElem_toArray, List.getElem_cons_succ, List.getElem_cons_zero]
      refine wpAnyH_take (i := 6) (v := undef) rfl (by kernel_rfl) (by kernel_rfl) (by kernel_rfl) (fun _ _ _ h => h) (Or.inr ⟨by rfl, rfl⟩) (by assumption) ?_
      simp only [Act.put, List.setIfInBounds_toArray, List.set_cons_zero, List.set_cons_succ, List.getElem_toArray, List.getElem_cons_succ, List.getElem_cons_zero]
      refine wpAnyH_take (i := 7) (v := undef) rfl (by kernel_rfl) (by kernel_rfl) (by kernel_rfl) (fun _ _ _ h => h) (Or.inr ⟨by rfl, rfl⟩) (by assumption) ?_
      simp only [Act.put, List.setIfInBounds_toArray, List.set_cons_zero, List.set_cons_succ, List.getElem_toArray, List.getElem_cons_succ, List.getElem_cons_zero]
      refine wpAnyH_take (i := 8) (v := undef) rfl (by kernel_rfl) (by kernel_rfl) (by kernel_rfl) (fun _ _ _ h => h) (Or.inr ⟨by rfl, rfl⟩) (by assumption) ?_
      simp only [Act.put, List.setIfInBounds_toArray, List.set_cons_zero, List.set_cons_succ, List.getElem_toArray, List.getElem_cons_succ, List.getElem_cons_zero]
      refine wpAnyH_take (i := 9) (v := undef) rfl (by kernel_rfl) (by kernel_rfl) (by kernel_rfl) (fun _ _ _ h => h) (Or.inr ⟨by rfl, rfl⟩) (by assumption) ?_
      simp only [Act.put, List.setIfInBounds_toArray, List.set_cons_zero, List.set_cons_succ, List.getElem_toArray, List.getElem_cons_succ, List.getElem_cons_zero]
      refine wpAnyH_take (i := 10) (v := undef) rfl (by kernel_rfl) (by kernel_rfl) (by kernel_rfl) (fun _ _ _ h => h) (Or.inr ⟨by rfl, rfl⟩) (by assumption) ?_
      simp only [Act.put, List.setIfInBounds_toArray, List.set_cons_zero, List.set_cons_succ, List.getElem_toArray, List.getElem_cons_succ, List.getElem_cons_zero]
      refine wpAnyH_take (i := 11) (v := undef) rfl (by kernel_rfl) (by kernel_rfl) (by kernel_rfl) (fun _ _ _ h => h) (Or.inr ⟨by rfl, rfl⟩) (by assumption) ?_
      simp only [Act.put, List.setIfInBounds_toArray, List.set_cons_zero, List.set_cons_succ, List.getElem_toArray, List.getElem_cons_succ, List.getElem_cons_zero]
      refine wpAnyH_take (i := 12) (v := undef) rfl (by kernel_rfl) (by kernel_rfl) (by kernel_rfl) (fun _ _ _ h => h) (Or.inr ⟨by rfl, rfl⟩) (by assumption) ?_
      simp only [Act.put, List.setIfInBounds_toArray, List.set_cons_zero, List.set_cons_succ, List.getElem_toArray, List.getElem_cons_succ, List.getElem_cons_zero]
      refine wpAnyH_take (i := 13) (v := undef) rfl (by kernel_rfl) (by kernel_rfl) (by kernel_rfl) (fun _ _ _ h => h) (Or.inr ⟨by rfl, rfl⟩) (by assumption) ?_
      simp only [Act.put, List.setIfInBounds_toArray, List.set_cons_zero, List.set_cons_succ, List.getElem_toArray, List.getElem_cons_succ, List.getElem_cons_zero]
      refine wpAnyH_take (i := 14) (v := undef) rfl (by kernel_rfl) (by kernel_rfl) (by kernel_rfl) (fun _ _ _ h => h) (Or.inr ⟨by rfl, rfl⟩) (by assumption) ?_
      simp only [Act.put, List.setIfInBounds_toArray, List.set_cons_zero, List.set_cons_succ, List.getElem_toArray, List.getElem_cons_succ, List.getElem_cons_zero]
      refine wpAnyH_take (i := 15) (v := ?_) rfl (by kernel_rfl) (by kernel_rfl) (by kernel_rfl) (fun _ _ _ h => h) (Or.inl ⟨by rfl, ?_⟩) (by assumption) ?_
      rotate_left
      · intro w hSw
        go_simp
        try rfl
      simp only [Act.put, List.setIfInBounds_toArray, List.set_cons_zero, List.set_cons_succ, List.getElem_toArray, List.getElem_cons_succ, List.getElem_cons_zero]
      refine wpAnyH_done (by kernel_rfl) ?_ _
      clear hHeld
      have HR5 := Lib.hid (hR4.bel b5)
      have HO5 := Lib.hid (HO.out.drew.bel b5)
      clear K1 K2 hR4 b5
      go_wp2_with fail
      go_region_held3 (fun w' => w'.cell? ⟨g, 0, none⟩ = some (.string s) ∧ w'.cell? ⟨g, 1, none⟩ = some (.int .i64 s.size)) (exact HR5.out.both) (fail)
      go_wp2_with fail
      go_ret
      exact ⟨by rw [HT.out, strOf_data]; rfl, by rw [HS.out]; exact HR5.out, HO5.out.drew⟩
end Go.Proofs.Ytlogjghbdnaedaa
