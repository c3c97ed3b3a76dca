/- Walks: the program's json reader: peek, sign, digits (chapter 10). -/
import Derived.Test.YtjnmcadfaombjaaJsSpec
import Derived.Test.YtjnmcadfaombjaaShelf
import Derived.Test.YtjnmcadfaombjaaUtfA
import Derived.Deep.DeepCutAuto
import Derived.StillTailTactics
import Derived.Outline
namespace Go.Proofs.Ytjnmcadfaombjaa
open Go.RowKit
set_option linter.unusedVariables false
set_option linter.unusedSimpArgs false
/-- The reader in memory: a text, and a place in it. -/
def Rdr (w : World) (g : Nat) (s : ByteArray) (k : Nat) : Prop := Blk w g 63 #[.string s, .int .i64 k]
section
variable {w w' : World} {g : Nat} {s : ByteArray} {k : Nat}
theorem Rdr.c0 (h : Rdr w g s k) : w.cell? ⟨g, 0, none⟩ = some (.string s) := Blk.cell h 0
theorem Rdr.c1 (h : Rdr w g s k) : w.cell? ⟨g, 1, none⟩ = some (.int .i64 k) := Blk.cell h 1
theorem Rdr.f1 (h : Rdr w g s k) : w.frozen? ⟨g, 1, none⟩ = false := Blk.frozen h 1
theorem Rdr.both (h : Rdr w g s k) : w.cell? ⟨g, 0, none⟩ = some (.string s) ∧ w.cell? ⟨g, 1, none⟩ = some (.int .i64 k) := ⟨h.c0, h.c1⟩
theorem Rdr.set (h : Rdr w g s k) (j : Nat) : Rdr (w.setCell ⟨g, 1, none⟩ (.int .i64 j)) g s j := Blk.set_ h 1 (.int .i64 j)
theorem Rdr.alloc (h : Rdr w g s k) (o : Obj) : Rdr (w.alloc o) g s k := Blk.alloc h o
theorem Rdr.below (h : Rdr w g s k) {B : Nat} (hb : Below B w w') (hg : g < B) : Rdr w' g s k := Blk.below h hb hg
theorem Rdr.bel (h : Rdr w g s k) (hb : Below w.heap.size w w') : Rdr w' g s k := Blk.below h hb (Blk.lt h)
theorem Rdr.lt (h : Rdr w g s k) : g < w.heap.size := Blk.lt h
end
/-- Is a byte one of a few? -/
def inL (l : List UInt8) (c : Nat) : Bool := l.any fun x => decide (x.toNat = c)
theorem indexByte_in (l : List UInt8) (c : UInt8) : decide (Lib.indexByte l c < 0) = !(inL l c.toNat) := by
  induction l with
  | nil => rfl
  | cons b t ih =>
    unfold Lib.indexByte
    have hg := Lib.indexByte_ge t c
    by_cases h : b = c
    · subst h
      rw [if_pos (by simp)]
      simp [inL]
    · have h2 : b.toNat ≠ c.toNat := fun e => h (UInt8.toNat_inj.1 e)
      rw [if_neg (by simpa using h)]
      have e : inL (b :: t) c.toNat = inL t c.toNat := by simp [inL, h2]
      rw [e, ← ih]
      split
      · rename_i h3
        have : Lib.indexByte t c = -1 := by simpa using h3
        rw [this]
      · rename_i h3
        have h4 : Lib.indexByte t c ≠ -1 := by simpa using h3
        exact decide_eq_decide.2 (by omega)
theorem index_in (p : ByteArray) (c : Nat) (hc : c < 256) :
    ∃ r : Int, (decide (r < 0) = !(inL p.data.toList c)) ∧ ∀ w, Calls Try.prog 24 #[.string p, .int .u8 c] w fun e w' => e = .returned (.int .i64 r) ∧ w = w' := by
  refine ⟨Lib.indexByte p.data.toList (UInt8.ofNat c), ?_, fun w => (Try.strings_IndexByte p c w).mono fun e w' ⟨a, b⟩ => ⟨by rw [a]; congr, b.symm⟩⟩
  rw [indexByte_in, of8 hc]
theorem bt_out {l : List UInt8} {k : Nat} (h : l.length ≤ k) : bt l k = 0 := by
  simp [bt, List.getD_eq_getElem?_getD, List.getElem?_eq_none h]
set_option maxHeartbeats 1000000 in
theorem jpeek (g k : Nat) (s : ByteArray) (w : World) (hR : Rdr w g s k) (hk : k ≤ 1000000) (hs : s.size ≤ 1000000) :
    Calls Try.prog 23 #[.pointer (some ⟨g, 0, none⟩)] w fun e w' => e = .returned (.int .u8 (bt s.data.toList k)) ∧ Below w.heap.size w w' := by
  have hl := Lib.hid (sz_len s)
  by_cases hlt : k < s.size
  · have hx := bt_byte s k hlt
    have y0 := bt_lt s.data.toList k
    generalize bt s.data.toList k = c at *
    go_enter Try.func23, Try.ntmps23
    go_wp2_with fail
    go_region_held3 (fun w' => w'.cell? ⟨g, 0, none⟩ = some (.string s) ∧ w'.cell? ⟨g, 1, none⟩ = some (.int .i64 k)) (exact hR.both) (fail)
    go_wp2_with fail
    go_region_held3 (fun w' => w'.cell? ⟨g, 0, none⟩ = some (.string s) ∧ w'.cell? ⟨g, 1, none⟩ = some (.int .i64 k)) (exact hR.both) (fail)
    go_wp2_with fail
    go_ret
    exact ⟨rfl, (Below.refl w.heap.size w).drew.drew⟩
  · have HZ : Hid (bt s.data.toList k = 0) := bt_out (by rw [← hl.out]; omega)
    go_enter Try.func23, Try.ntmps23
    go_wp2_with fail
    go_region_held3 (fun w' => w'.cell? ⟨g, 0, none⟩ = some (.string s) ∧ w'.cell? ⟨g, 1, none⟩ = some (.int .i64 k)) (exact hR.both) (fail)
    go_wp2_with fail
    go_ret
    exact ⟨by rw [HZ.out]; rfl, (Below.refl w.heap.size w).drew⟩
set_option maxRecDepth 100000 in
set_option maxHeartbeats 2000000 in
theorem jsign (g k : Nat) (s p : ByteArray) (w : World) (hR : Rdr w g s k) (hk : k ≤ 1000000) (hs : s.size ≤ 1000000) (b : Bool) (hb : (decide (k < s.size) && inL p.data.toList (bt s.data.toList k)) = b) :
    Calls Try.prog 62 #[.pointer (some ⟨g, 0, none⟩), .string p] w fun e w' => e = .returned (.bool b) ∧ Rdr w' g s (if b then k + 1 else k) ∧ Only g w w' := by
  by_cases hlt : k < s.size
  · rw [decide_eq_true hlt, Bool.true_and] at hb
    have hx := bt_byte s k hlt
    have y0 := bt_lt s.data.toList k
    obtain ⟨r, hr, hi⟩ := index_in p (bt s.data.toList k) y0
    rw [hb] at hr
    have HI := Lib.hid hi
    have hd : decide (s.size ≤ k) = false := decide_eq_false (by omega)
    clear hi hb
    generalize bt s.data.toList k = c at *
    cases b
    · have hr2 : r < 0 := by simpa using hr
      clear hr
      go_enter Try.func62, Try.ntmps62
      go_wp2_with fail
      go_region_held3 (fun w' => w'.cell? ⟨g, 0, none⟩ = some (.string s) ∧ w'.cell? ⟨g, 1, none⟩ = some (.int .i64 k)) (exact hR.both) ((go_at_call 24; refine (HI.out _).mono ?_; rintro e w' ⟨rfl, rfl⟩))
      go_wp2_with fail
      go_ret
      exact ⟨rfl, hR, (Only.refl g w).drew⟩
    · have hr2 : 0 ≤ r := by simpa using hr
      clear hr
      go_enter Try.func62, Try.ntmps62
      go_wp2_with fail
      go_region_held3 (fun w' => w'.cell? ⟨g, 0, none⟩ = some (.string s) ∧ w'.cell? ⟨g, 1, none⟩ = some (.int .i64 k)) (exact hR.both) ((go_at_call 24; refine (HI.out _).mono ?_; rintro e w' ⟨rfl, rfl⟩))
      have c1 : w.drew.cell? ⟨g, 1, none⟩ = some (.int .i64 k) := hR.c1
      have f1 : w.drew.frozen? ⟨g, 1, none⟩ = false := hR.f1
      go_wp2_with fail
      go_ret
      exact ⟨rfl, Rdr.set hR (k + 1), (Only.refl g w).drew.set 1 _⟩
  · rw [decide_eq_false hlt, Bool.false_and] at hb
    subst hb
    have hd : decide (s.size ≤ k) = true := decide_eq_true (by omega)
    go_enter Try.func62, Try.ntmps62
    go_wp2_with fail
    refine wp_region_held_drew (S := (fun w' => w'.cell? ⟨g, 0, none⟩ = some (.string s) ∧ w'.cell? ⟨g, 1, none⟩ = some (.int .i64 k))) (by kernel_rfl) (by exact hR.both) (fun hHeld => ?_)
    refine wpAnyH_take (i := 0) (v := ?_) rfl (by kernel_rfl) (by kernel_rfl) (by kernel_rfl) (fun _ _ _ h => h) (Or.inl ⟨by rfl, ?_⟩) (by assumption) ?_
    rotate_left
    · intro w hSw
      go_simp
      try rfl
    simp only [Act.put, List.setIfInBounds_toArray, List.set_cons_zero, List.set_cons_succ, List.getElem_toArray, List.getElem_cons_succ, List.getElem_cons_zero]
    refine wpAnyH_take (i := 1) (v := ?_) rfl (by kernel_rfl) (by kernel_rfl) (by kernel_rfl) (fun _ _ _ h => h) (Or.inl ⟨by rfl, ?_⟩) (by assumption) ?_
    rotate_left
    · intro w hSw
      go_simp
      try rfl
    simp only [Act.put, List.setIfInBounds_toArray, List.set_cons_zero, List.set_cons_succ, List.getElem_toArray, List.getElem_cons_succ, List.getElem_cons_zero]
    refine wpAnyH_take (i := 2) (v := ?_) rfl (by kernel_rfl) (by kernel_rfl) (by kernel_rfl) (fun _ _ _ h => h) (Or.inl ⟨by rfl, ?_⟩) (by assumption) ?_
    rotate_left
    · intro w hSw
      go_simp
      try rfl
    simp only [Act.put, List.setIfInBounds_toArray, List.set_cons_zero, List.set_cons_succ, List.getElem_toArray, List.getElem_cons_succ, List.getElem_cons_zero]
    refine wpAnyH_take (i := 3) (v := ?_) rfl (by kernel_rfl) (by kernel_rfl) (by kernel_rfl) (fun _ _ _ h => h) (Or.inl ⟨by rfl, ?_⟩) (by assumption) ?_
    rotate_left
    · intro w hSw
      go_simp
      try rfl
    simp only [Act.put, List.setIfInBounds_toArray, List.set_cons_zero, List.set_cons_succ, List.getElem_toArray, List.getElem_cons_succ, List.getElem_cons_zero]
    refine wpAnyH_take (i := 4) (v := ?_) rfl (by kernel_rfl) (by kernel_rfl) (by kernel_rfl) (fun _ _ _ h => h) (Or.inl ⟨by rfl, ?_⟩) (by assumption) ?_
    rotate_left
    · intro w hSw
      go_simp
      try rfl
    simp only [Act.put, List.setIfInBounds_toArray, List.set_cons_zero, List.set_cons_succ, List.getElem_toArray, List.getElem_cons_succ, List.getElem_cons_zero]
    refine wpAnyH_take (i := 5) (v := ?_) rfl (by kernel_rfl) (by kernel_rfl) (by kernel_rfl) (fun _ _ _ h => h) (Or.inl ⟨by rfl, ?_⟩) (by assumption) ?_
    rotate_left
    · intro w hSw
      go_simp
      try rfl
    simp only [Act.put, List.setIfInBounds_toArray, List.set_cons_zero, List.set_cons_succ, List.getElem_toArray, List.getElem_cons_succ, List.getElem_cons_zero]
    refine wpAnyH_take (i := 6) (v := ?_) rfl (by kernel_rfl) (by kernel_rfl) (by kernel_rfl) (fun _ _ _ h => h) (Or.inl ⟨by rfl, ?_⟩) (by assumption) ?_
    rotate_left
    · intro w hSw
      go_simp
      try rfl
    simp only [Act.put, List.setIfInBounds_toArray, List.set_cons_zero, List.set_cons_succ, List.getElem_toArray, List.getElem_cons_succ, List.getElem_cons_zero]
    refine wpAnyH_take (i := 7) (v := ?_) rfl (by kernel_rfl) (by kernel_rfl) (by kernel_rfl) (fun _ _ _ h => h) (Or.inl ⟨by rfl, ?_⟩) (by assumption) ?_
    rotate_left
    · intro w hSw
      go_simp
      try rfl
    simp only [Act.put, List.setIfInBounds_toArray, List.set_cons_zero, List.set_cons_succ, List.getElem_toArray, List.getElem_cons_succ, List.getElem_cons_zero]
    refine wpAnyH_take (i := 8) (v := ?_) rfl (by kernel_rfl) (by kernel_rfl) (by kernel_rfl) (fun _ _ _ h => h) (Or.inl ⟨by rfl, ?_⟩) (by assumption) ?_
    rotate_left
    · intro w hSw
      go_simp
      try rfl
    simp only [Act.put, List.setIfInBounds_toArray, List.set_cons_zero, List.set_cons_succ, List.getElem_toArray, List.getElem_cons_succ, List.getElem_cons_zero]
    refine wpAnyH_take (i := 9) (v := ?_) rfl (by kernel_rfl) (by kernel_rfl) (by kernel_rfl) (fun _ _ _ h => h) (Or.inl ⟨by rfl, ?_⟩) (by assumption) ?_
    rotate_left
    · intro w hSw
      go_simp
      try rfl
    simp only [Act.put, List.setIfInBounds_toArray, List.set_cons_zero, List.set_cons_succ, List.getElem_toArray, List.getElem_cons_succ, List.getElem_cons_zero]
    refine wpAnyH_take (i := 10) (v := ?_) rfl (by kernel_rfl) (by kernel_rfl) (by kernel_rfl) (fun _ _ _ h => h) (Or.inl ⟨by rfl, ?_⟩) (by assumption) ?_
    rotate_left
    · intro w hSw
      go_simp
      try rfl
    simp only [Act.put, List.setIfInBounds_toArray, List.set_cons_zero, List.set_cons_succ, List.getElem_toArray, List.getElem_cons_succ, List.getElem_cons_zero]
    refine wpAnyH_take (i := 11) (v := undef) rfl (by kernel_rfl) (by kernel_rfl) (by kernel_rfl) (fun _ _ _ h => h) (Or.inr ⟨by rfl, rfl⟩) (by assumption) ?_
    simp only [Act.put, List.setIfInBounds_toArray, List.set_cons_zero, List.set_cons_succ, List.getElem_toArray, List.getElem_cons_succ, List.getElem_cons_zero]
    refine wpAnyH_take (i := 12) (v := undef) rfl (by kernel_rfl) (by kernel_rfl) (by kernel_rfl) (fun _ _ _ h => h) (Or.inr ⟨by rfl, rfl⟩) (by assumption) ?_
    simp only [Act.put, List.setIfInBounds_toArray, List.set_cons_zero, List.set_cons_succ, List.getElem_toArray, List.getElem_cons_succ, List.getElem_cons_zero]
    refine wpAnyH_take (i := 13) (v := undef) rfl (by kernel_rfl) (by kernel_rfl) (by kernel_rfl) (fun _ _ _ h => h) (Or.inr ⟨by rfl, rfl⟩) (by assumption) ?_
    simp only [Act.put, List.setIfInBounds_toArray, List.set_cons_zero, List.set_cons_succ, List.getElem_toArray, List.getElem_cons_succ, List.getElem_cons_zero]
    refine wpAnyH_take (i := 14) (v := undef) rfl (by kernel_rfl) (by kernel_rfl) (by kernel_rfl) (fun _ _ _ h => h) (Or.inr ⟨by rfl, rfl⟩) (by assumption) ?_
    simp only [Act.put, List.setIfInBounds_toArray, List.set_cons_zero, List.set_cons_succ, List.getElem_toArray, List.getElem_cons_succ, List.getElem_cons_zero]
    refine wpAnyH_take (i := 15) (v := undef) rfl (by kernel_rfl) (by kernel_rfl) (by kernel_rfl) (fun _ _ _ h => h) (Or.inr ⟨by rfl, rfl⟩) (by assumption) ?_
    simp only [Act.put, List.setIfInBounds_toArray, List.set_cons_zero, List.set_cons_succ, List.getElem_toArray, List.getElem_cons_succ, List.getElem_cons_zero]
    refine wpAnyH_take (i := 16) (v := undef) rfl (by kernel_rfl) (by kernel_rfl) (by kernel_rfl) (fun _ _ _ h => h) (Or.inr ⟨by rfl, rfl⟩) (by assumption) ?_
    simp only [Act.put, List.setIfInBounds_toArray, List.set_cons_zero, List.set_cons_succ, List.getElem_toArray, List.getElem_cons_succ, List.getElem_cons_zero]
    refine wpAnyH_take (i := 17) (v := undef) rfl (by kernel_rfl) (by kernel_rfl) (by kernel_rfl) (fun _ _ _ h => h) (Or.inr ⟨by rfl, rfl⟩) (by assumption) ?_
    simp only [Act.put, List.setIfInBounds_toArray, List.set_cons_zero, List.set_cons_succ, List.getElem_toArray, List.getElem_cons_succ, List.getElem_cons_zero]
    refine wpAnyH_take (i := 18) (v := undef) rfl (by kernel_rfl) (by kernel_rfl) (by kernel_rfl) (fun _ _ _ h => h) (Or.inr ⟨by rfl, rfl⟩) (by assumption) ?_
    simp only [Act.put, List.setIfInBounds_toArray, List.set_cons_zero, List.set_cons_succ, List.getElem_toArray, List.getElem_cons_succ, List.getElem_cons_zero]
    refine wpAnyH_take (i := 19) (v := undef) rfl (by kernel_rfl) (by kernel_rfl) (by kernel_rfl) (fun _ _ _ h => h) (Or.inr ⟨by rfl, rfl⟩) (by assumption) ?_
    simp only [Act.put, List.setIfInBounds_toArray, List.set_cons_zero, List.set_cons_succ, List.getElem_toArray, List.getElem_cons_succ, List.getElem_cons_zero]
    refine wpAnyH_take (i := 20) (v := undef) rfl (by kernel_rfl) (by kernel_rfl) (by kernel_rfl) (fun _ _ _ h => h) (Or.inr ⟨by rfl, rfl⟩) (by assumption) ?_
    simp only [Act.put, List.setIfInBounds_toArray, List.set_cons_zero, List.set_cons_succ, List.getElem_toArray, List.getElem_cons_succ, List.getElem_cons_zero]
    refine wpAnyH_take (i := 21) (v := undef) rfl (by kernel_rfl) (by kernel_rfl) (by kernel_rfl) (fun _ _ _ h => h) (Or.inr ⟨by rfl, rfl⟩) (by assumption) ?_
    simp only [Act.put, List.setIfInBounds_toArray, List.set_cons_zero, List.set_cons_succ, List.getElem_toArray, List.getElem_cons_succ, List.getElem_cons_zero]
    refine wpAnyH_take (i := 22) (v := undef) rfl (by kernel_rfl) (by kernel_rfl) (by kernel_rfl) (fun _ _ _ h => h) (Or.inr ⟨by rfl, rfl⟩) (by assumption) ?_
    simp only [Act.put, List.setIfInBounds_toArray, List.set_cons_zero, List.set_cons_succ, List.getElem_toArray, List.getElem_cons_succ, List.getElem_cons_zero]
    refine wpAnyH_take (i := 23) (v := ?_) rfl (by kernel_rfl) (by kernel_rfl) (by kernel_rfl) (fun _ _ _ h => h) (Or.inl ⟨by rfl, ?_⟩) (by assumption) ?_
    rotate_left
    · intro w hSw
      go_simp
      try rfl
    simp only [Act.put, List.setIfInBounds_toArray, List.set_cons_zero, List.set_cons_succ, List.getElem_toArray, List.getElem_cons_succ, List.getElem_cons_zero]
    refine wpAnyH_done (by kernel_rfl) ?_ _
    clear hHeld
    go_wp2_with fail
    go_ret
    exact ⟨rfl, hR, (Only.refl g w).drew⟩
end Go.Proofs.Ytjnmcadfaombjaa
