/- Loops over the iterator: Clean. -/
import Derived.Test.YtlogjghbdnaedaaUtfL
import Derived.Test.YtlogjghbdnaedaaBuildK
namespace Go.Proofs.Ytlogjghbdnaedaa
open Go.RowKit Go.Shelf
set_option linter.unusedVariables false
set_option linter.unusedSimpArgs false
attribute [local go_sem] Oper.semAt_some
theorem bt_ge {l : List UInt8} {k : Nat} (h : l.length ≤ k) : bt l k = 0 := by
  have := bt_drop l k 0
  rw [List.drop_eq_nil_of_le h] at this
  simpa [bt] using this.symm
theorem build_kept {n b : Nat} {l : List UInt8} {W W' : World} {row : Option Nat} (h : Build n b l W) (hg : W.grownBy W' row) (hr : ∀ r, row = some r → ∃ o : Obj, W.heap[r]? = some o ∧ o.isCells = false) : Build n b l W' := by
  have key : ∀ p, BuildAt n b p l W → BuildAt n b p l W' := by
    rintro p ⟨hb, v, hk, ho⟩
    refine ⟨hb, v, hk.kept hg hr, ho.1, ?_⟩
    rcases ho.2 with h | ⟨q, cap, cur, hv, hq, hh, r⟩
    · exact .inl h
    · exact .inr ⟨q, cap, cur, hv, hq, (grownBy_keeps_cells hg hr hh rfl).trans hh, r⟩
  rcases h with h | h
  · exact .inl (key _ h)
  · exact .inr (key _ h)
theorem build_below {n b : Nat} {l : List UInt8} {W W' : World} (h : Build n b l W) (hb : Below W.heap.size W W') : Build n b l W' := by
  have key : ∀ p, BuildAt n b p l W → BuildAt n b p l W' := by
    rintro p ⟨hb', v, hk, ho⟩
    refine ⟨hb', v, hk.below hb hk.lt, ho.1, ?_⟩
    rcases ho.2 with h | ⟨q, cap, cur, hv, hq, hh, r⟩
    · exact .inl h
    · exact .inr ⟨q, cap, cur, hv, hq, (hb.block q (Array.getElem?_eq_some_iff.1 hh).1).trans hh, r⟩
  rcases h with h | h
  · exact .inl (key _ h)
  · exact .inr (key _ h)
def CleanI (s : ByteArray) (B : Nat) (pre : List Stp) (W : World) : Prop :=
  ((Blk W B 9 #[.string s] ∧ Blk W (B + 2) 3 #[.int .i64 (total pre)]) ∧ Build (B + 4) (B + 1) (cleanP s.data.toList 0 pre) W) ∧ B + 4 ≤ W.heap.size
theorem cleanI_own (s : ByteArray) (B n : Nat) : OwnFrom n (CleanI s B) := fun pre W W' row ⟨⟨⟨a, b⟩, c⟩, d⟩ hg hr =>
  ⟨⟨⟨a.kept hg (fun r e => (hr r e).2), b.kept hg (fun r e => (hr r e).2)⟩, build_kept c hg (fun r e => (hr r e).2)⟩, Nat.le_trans d hg.size⟩
def CleanN (s : ByteArray) (w : World) (x : Stp) (pre : List Stp) (W w3 : World) : Prop :=
  KeepsOthers W w3 ∧ KB (w.heap.size + 3) W w3 ∧ CleanI s w.heap.size (pre ++ [x]) w3 ∧ Below w.heap.size w w3
theorem clean_turn (s : ByteArray) (w W W1 : World) (pre : List Stp) (x : Stp) (hI : CleanI s w.heap.size pre W) (hB : Below w.heap.size w W)
    (hW1 : W.setCell ⟨w.heap.size + 2, 0, none⟩ (.int .i64 ((total pre : Int) + x.n)) = W1) (hp : pieceP s.data.toList (total pre) x = []) : CleanN s w x pre W W1 := by
  obtain ⟨⟨⟨hS, hT⟩, hU⟩, hsz⟩ := hI
  subst hW1
  have hE : ∀ j, j ≠ w.heap.size + 2 → (W.setCell ⟨w.heap.size + 2, 0, none⟩ (.int .i64 ((total pre : Int) + x.n))).heap[j]? = W.heap[j]? := fun j hj => Below.heap_setCell _ _ _ _ hj
  refine ⟨KeepsOthers.setCell _ _ _, hE _ (by omega), ⟨⟨⟨hS.far (p := ⟨w.heap.size + 2, 0, none⟩) (by simp) _, ?_⟩, ?_⟩, by simpa [World.setCell] using hsz⟩, hB.setCell (p := ⟨w.heap.size + 2, 0, none⟩) (by simp) _⟩
  · rw [total_snoc]
    have := hT.set_ 0 (.int .i64 ((total pre : Int) + x.n))
    simpa using this
  · rw [cleanP_snoc, Nat.zero_add, hp, List.append_nil]
    exact hU.bnd (g := w.heap.size + 2) hE (by omega) (by omega)
theorem clean_write (s : ByteArray) (w W W1 w2 : World) (pre : List Stp) (x : Stp) (hI : CleanI s w.heap.size pre W) (hB : Below w.heap.size w W) (hN : pre.length < 60000)
    (hW1 : W.setCell ⟨w.heap.size + 2, 0, none⟩ (.int .i64 ((total pre : Int) + x.n)) = W1) (b2 : Below W1.heap.size W1 w2) (bs : List UInt8) (hbs : bs.length ≤ 4) :
    Calls Try.prog 56 #[.pointer (some ⟨w.heap.size + 1, 0, none⟩), .string (strOf bs)] w2 fun e w3 => e = .returned (.tuple #[.int .i64 (strOf bs).size, .nilIface]) ∧
      (pieceP s.data.toList (total pre) x = bs → CleanN s w x pre W w3) := by
  obtain ⟨⟨⟨hS, hT⟩, hU⟩, hsz⟩ := hI
  have hE : ∀ j, j ≠ w.heap.size + 2 → W1.heap[j]? = W.heap[j]? := by rw [← hW1]; exact fun j hj => Below.heap_setCell _ _ _ _ hj
  have hz : W1.heap.size = W.heap.size := by rw [← hW1]; simp [World.setCell]
  have hk1 : KeepsOthers W W1 := by rw [← hW1]; exact KeepsOthers.setCell _ _ _
  have hT1 : Blk W1 (w.heap.size + 2) 3 #[.int .i64 ((total pre : Int) + x.n)] := by rw [← hW1]; exact hT.set_ 0 _
  have hS1 : Blk W1 w.heap.size 9 #[.string s] := by rw [← hW1]; exact hS.far (p := ⟨w.heap.size + 2, 0, none⟩) (by simp) _
  have hB1 : Below w.heap.size w W1 := by rw [← hW1]; exact hB.setCell (p := ⟨w.heap.size + 2, 0, none⟩) (by simp) _
  have hk2 := keepsOthers_below b2
  have hz2 := b2.size
  have hU2 : Build (w.heap.size + 4) (w.heap.size + 1) (cleanP s.data.toList 0 pre) w2 := by
    have h1 : Build (w.heap.size + 4) (w.heap.size + 1) (cleanP s.data.toList 0 pre) W1 := hU.bnd (g := w.heap.size + 2) hE (by omega) (by omega)
    exact build_below h1 b2
  have hl := cleanP_length s.data.toList pre 0
  refine (writeString_any _ _ _ (strOf bs) w2 hU2 (by omega) (by rw [strOf_size]; omega)).mono ?_
  rintro e w3 ⟨he, hU3, b3⟩
  rw [strOf_list] at hU3
  refine ⟨he, fun hp => ⟨(hk1.trans hk2).trans b3.keep, ?_, ⟨⟨⟨?_, ?_⟩, ?_⟩, ?_⟩, ?_⟩⟩
  · exact (b3.block _ (by omega) (by omega)).trans ((b2.block _ (by omega)).trans (hE _ (by omega)))
  · exact (hS1.below b2 (by omega)).bnd b3 (by omega) (by omega)
  · rw [total_snoc]
    have := (hT1.below b2 (by omega)).bnd b3 (by omega) (by omega)
    simpa using this
  · rw [cleanP_snoc, Nat.zero_add, hp]
    exact hU3
  · have := b3.size; omega
  · exact (hB1.trans (b2.mono (by omega))).trans (b3.below (by omega) (by omega))
end Go.Proofs.Ytlogjghbdnaedaa
