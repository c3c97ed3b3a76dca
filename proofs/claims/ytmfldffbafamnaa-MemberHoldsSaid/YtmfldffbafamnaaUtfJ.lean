/- Loops over the iterator: Count, Is. -/
import Derived.Test.YtmfldffbafamnaaUtfI
namespace Go.Proofs.Ytmfldffbafamnaa
open Go.RowKit Go.Shelf
set_option linter.unusedVariables false
set_option linter.unusedSimpArgs false
attribute [local go_sem] Oper.semAt_some
theorem stps_length_le (l : List UInt8) : (stps l).length ≤ l.length := by
  have h := congrArg List.length (stps_map l)
  rw [List.length_map] at h
  have := runes_length_le l
  unfold runes at this
  rw [List.length_map] at this
  omega
theorem stpV_size (x : Stp) : (stpV x).size = 2 := rfl
theorem cell_at_below {w W : World} {B : Nat} {b o : Nat} {v : Value} (hb : Below B w W) (h : b < B) (hc : w.cell? ⟨b, o, none⟩ = some v) : W.cell? ⟨b, o, none⟩ = some v := (hb.cell (p := ⟨b, o, none⟩) h).trans hc
theorem Blk.kept {W W' : World} {row : Option Nat} {g : Nat} {t : TypeId} {cs : Array Value} (h : Blk W g t cs) (hg : W.grownBy W' row) (hrow : ∀ r, row = some r → ∃ o : Obj, W.heap[r]? = some o ∧ o.isCells = false) : Blk W' g t cs :=
  (grownBy_keeps_cells hg hrow h rfl).trans h
theorem own_blk {β : Type} (g : Nat) (t : TypeId) (f : β → Array Value) (B : Nat) : OwnFrom B (fun (s : β) W => Blk W g t (f s)) := fun s W W' row hs hg hr => Blk.kept hs hg (fun r e => (hr r e).2)
theorem Blk.putObj {W : World} {g D : Nat} {t : TypeId} {cs : Array Value} (h : Blk W g t cs) {o o' : Obj} (hD : W.heap[D]? = some o) (ho : o.isCells = false) : Blk (W.putObj D o') g t cs :=
  h.kept (grownBy_putObj' W D o') (fun r e => by cases e; exact ⟨_, hD, ho⟩)
theorem good_stps (l : List UInt8) : good l = (stps l).all fun p => !(p.r == 65533 && p.n == 1) := by
  unfold good; rw [← stps_map, List.all_map]; rfl
end Go.Proofs.Ytmfldffbafamnaa
