/- A strings.Builder that the call itself has made: copyCheck, WriteString, WriteByte, String. -/
import Derived.Test.YtmfldffbafamnaaMem
import Derived.Test.YtmfldffbafamnaaShelf
import Derived.Lib.Builder
import Derived.Lib.AppendStr
import Derived.Laws.Externs
import Derived.KernelRfl
import Derived.OwnWalk
import Derived.RangeFuncOwn
import Derived.RangeFuncCalls
import Derived.Shelf.Strings.BuilderK
namespace Go.Proofs.Ytmfldffbafamnaa
open Go.RowKit
set_option linter.unusedVariables false
set_option linter.unusedSimpArgs false
/-- Below block n only block g has turned. -/
structure Bnd (n g : Nat) (w w' : World) : Prop where
  os : w'.os = w.os
  tape : w'.tape = w.tape
  output : w'.output = w.output
  size : w.heap.size ≤ w'.heap.size
  block : ∀ k, k < n → k ≠ g → w'.heap[k]? = w.heap[k]?
  keep : KeepsOthers w w'
theorem keepsOthers_below {w w' : World} (h : Below w.heap.size w w') : KeepsOthers w w' := ⟨h.size, fun k o hk _ => (h.block k (Array.getElem?_eq_some_iff.1 hk).1).trans hk⟩
theorem Bnd.refl (n g : Nat) (w : World) : Bnd n g w w := ⟨rfl, rfl, rfl, Nat.le_refl _, fun _ _ _ => rfl, KeepsOthers.refl w⟩
theorem Bnd.trans {n g : Nat} {a b c : World} (h : Bnd n g a b) (k : Bnd n g b c) : Bnd n g a c :=
  ⟨k.os.trans h.os, k.tape.trans h.tape, k.output.trans h.output, Nat.le_trans h.size k.size, fun i hi hn => (k.block i hi hn).trans (h.block i hi hn), h.keep.trans k.keep⟩
theorem Bnd.of_below {n g : Nat} {a b : World} (h : Below n a b) (hk : KeepsOthers a b) : Bnd n g a b := ⟨h.os, h.tape, h.output, h.size, fun k hk _ => h.block k hk, hk⟩
theorem Bnd.set {n g : Nat} {a w : World} (h : Bnd n g a w) (i : Nat) (u : Value) : Bnd n g a (w.setCell ⟨g, i, none⟩ u) :=
  ⟨h.os, h.tape, h.output, by simpa [World.setCell] using h.size, fun k hk hn => (Below.heap_setCell w ⟨g, i, none⟩ u k hn).trans (h.block k hk hn), h.keep.trans (KeepsOthers.setCell _ _ _)⟩
theorem Bnd.below {n g B : Nat} {a w : World} (h : Bnd n g a w) (hg : B ≤ g) (hn : B ≤ n) : Below B a w := ⟨h.os, h.tape, h.output, h.size, fun k hk => h.block k (by omega) (by omega)⟩
theorem Blk.bnd {n g k : Nat} {a w : World} {t : TypeId} {cs : Array Value} (h : Blk a k t cs) (b : Bnd n g a w) (hk : k < n) (hn : k ≠ g) : Blk w k t cs := (b.block k hk hn).trans h
theorem infoByte : (Try.prog.info? 5).map (fun i => (i.zero, i.size, i.bytes)) = some (some (.int .u8 0), 1, 1) := by kernel_rfl
theorem strCells_map (s : ByteArray) : Lib.strCells s = s.data.toList.map fun c => Value.int .u8 c.toNat := by
  simp [Lib.strCells]
end Go.Proofs.Ytmfldffbafamnaa

/- A builder's text, with what lies above it kept. -/
namespace Go.Proofs.Ytmfldffbafamnaa
open Go.RowKit
theorem keepsOthers_othersKept {e : TypeId} {b : Nat} {w w' : World} {cs : Array Value} {t : TypeId} (h : Lib.OthersKept e (some b) w w') (hb : Blk w b t cs) (hs : w.heap.size ≤ w'.heap.size) : KeepsOthers w w' := by
  refine ⟨hs, fun k o hk ho => ?_⟩
  refine h k o hk ?_ ?_
  · intro e; cases e
    unfold Blk at hb; rw [hb] at hk; cases hk; cases ho
  · intro c fz e; subst e; cases ho
end Go.Proofs.Ytmfldffbafamnaa
