/- A strings.Builder that the call itself has made: copyCheck, WriteString, WriteByte, String. -/
import Derived.Test.YtlogjghbdnaedaaMem
import Derived.Test.YtlogjghbdnaedaaShelf
import Derived.Lib.Builder
import Derived.Lib.AppendStr
import Derived.Laws.Externs
import Derived.KernelRfl
import Derived.OwnWalk
import Derived.RangeFuncOwn
import Derived.RangeFuncCalls
namespace Go.Proofs.Ytlogjghbdnaedaa
open Go.RowKit
set_option linter.unusedVariables false
set_option linter.unusedSimpArgs false
/-- Below block n only block g has turned. -/
structure Bnd (n g : Nat) (w w' : World) : Prop where
  os : w'.os = w.os
  tape : w'.tape = w.tape
  output : w'.output = w.output
  size : w.heap.size ≤ w'.heap.size
  block : ∀ k, k < n → k ≠ g → w'.heap[k]? = w.heap[k]?
  keep : KeepsOthers w w'
theorem keepsOthers_below {w w' : World} (h : Below w.heap.size w w') : KeepsOthers w w' := ⟨h.size, fun k o hk _ => (h.block k (Array.getElem?_eq_some_iff.1 hk).1).trans hk⟩
theorem Bnd.refl (n g : Nat) (w : World) : Bnd n g w w := ⟨rfl, rfl, rfl, Nat.le_refl _, fun _ _ _ => rfl, KeepsOthers.refl w⟩
theorem Bnd.trans {n g : Nat} {a b c : World} (h : Bnd n g a b) (k : Bnd n g b c) : Bnd n g a c :=
  ⟨k.os.trans h.os, k.tape.trans h.tape, k.output.trans h.output, Nat.le_trans h.size k.size, fun i hi hn => (k.block i hi hn).trans (h.block i hi hn), h.keep.trans k.keep⟩
theorem Bnd.of_below {n g : Nat} {a b : World} (h : Below n a b) (hk : KeepsOthers a b) : Bnd n g a b := ⟨h.os, h.tape, h.output, h.size, fun k hk _ => h.block k hk, hk⟩
theorem Bnd.set {n g : Nat} {a w : World} (h : Bnd n g a w) (i : Nat) (u : Value) : Bnd n g a (w.setCell ⟨g, i, none⟩ u) :=
  ⟨h.os, h.tape, h.output, by simpa [World.setCell] using h.size, fun k hk hn => (Below.heap_setCell w ⟨g, i, none⟩ u k hn).trans (h.block k hk hn), h.keep.trans (KeepsOthers.setCell _ _ _)⟩
theorem Bnd.below {n g B : Nat} {a w : World} (h : Bnd n g a w) (hg : B ≤ g) (hn : B ≤ n) : Below B a w := ⟨h.os, h.tape, h.output, h.size, fun k hk => h.block k (by omega) (by omega)⟩
theorem Blk.bnd {n g k : Nat} {a w : World} {t : TypeId} {cs : Array Value} (h : Blk a k t cs) (b : Bnd n g a w) (hk : k < n) (hn : k ≠ g) : Blk w k t cs := (b.block k hk hn).trans h
/-- A builder in block b, its buffer nil or a row of its own from block n on; it holds the bytes l. 'p': what it says of its own address. -/
def BuildAt (n b : Nat) (p : Value) (l : List UInt8) (w : World) : Prop :=
  b < n ∧ ∃ v, Blk w b 95 #[p, v] ∧ w.ownsRow n 5 1 v l.length (l.map fun c => Value.int .u8 c.toNat)
def Build (n b : Nat) (l : List UInt8) (w : World) : Prop := BuildAt n b (.pointer none) l w ∨ BuildAt n b (.pointer (some ⟨b, 0, none⟩)) l w
theorem sizeBuilder : (Try.prog.info? 95).map (·.size) = some 2 := by kernel_rfl
theorem liesBuilder : liesAt Try.prog Try.prog.depth 95 (2 / Try.prog.cellsOf 95) 0 95 1 = true := by kernel_rfl
theorem infoByte : (Try.prog.info? 5).map (fun i => (i.zero, i.size, i.bytes)) = some (some (.int .u8 0), 1, 1) := by kernel_rfl
theorem noEscape (x : Value) (w : World) : (callFunc 72 #[x]).run Try.prog w = .ok (.value x) w := by
  rw [run_callFunc_extern Try.func72 (by kernel_rfl) (by kernel_rfl) (by kernel_rfl) (e := Extern.AbiNoEscape.same) (by kernel_rfl), Lib.run_noEscape]
  rfl
theorem check_used (b : Nat) (v : Value) (w : World) (h : Blk w b 95 #[.pointer (some ⟨b, 0, none⟩), v]) :
    Calls Try.prog 69 #[.pointer (some ⟨b, 0, none⟩)] w fun e w' => e = .returned (.tuple #[]) ∧ w = w' := by
  obtain ⟨j, hj, _⟩ := Option.map_eq_some_iff.1 sizeBuilder
  have c0 := h.cell 0
  have k4 := fun w => Lib.run_neq_ptr_same (P := Try.prog) w (⟨b, 0, none⟩ : Addr) Try.underlying92 hj
  clear hj
  go_enter Try.func69, Try.ntmps69
  go_wp2
  go_end0
  exact ⟨rfl, rfl⟩
set_option maxHeartbeats 1000000 in
theorem check_fresh (b : Nat) (v : Value) (w : World) (h : Blk w b 95 #[.pointer none, v]) :
    Calls Try.prog 69 #[.pointer (some ⟨b, 0, none⟩)] w fun e w' => e = .returned (.tuple #[]) ∧ w.setCell ⟨b, 0, none⟩ (.pointer (some ⟨b, 0, none⟩)) = w' := by
  obtain ⟨j, hj, hjs⟩ := Option.map_eq_some_iff.1 sizeBuilder
  have c0 := h.cell 0
  have f0 := h.frozen 0
  have hsh : w.shape? b = some (95, 2) := by unfold Blk at h; unfold World.shape?; rw [h]; rfl
  have k1 := Lib.run_to_unsafe (P := Try.prog) w (⟨b, 0, none⟩ : Addr) Try.underlying92 Try.underlying115 hj (by rw [hjs]; decide) hsh (Nat.zero_lt_succ 1)
  have k2 := Lib.run_from_unsafe (P := Try.prog) w (⟨b, 0, none⟩ : Addr) Try.underlying115 Try.underlying92 hj hsh liesBuilder
  have k3 := noEscape
  have k4 := fun w => Lib.run_neq_ptr_same (P := Try.prog) w (⟨b, 0, none⟩ : Addr) Try.underlying92 hj
  clear hj hjs hsh
  go_enter Try.func69, Try.ntmps69
  go_wp2
  go_end0
  exact ⟨rfl, rfl⟩
/-- copyCheck at any builder: behind it it is used; only its own block has turned. -/
theorem check_any (n b : Nat) (l : List UInt8) (w : World) (h : Build n b l w) :
    Calls Try.prog 69 #[.pointer (some ⟨b, 0, none⟩)] w fun e w' => e = .returned (.tuple #[]) ∧ BuildAt n b (.pointer (some ⟨b, 0, none⟩)) l w' ∧ Bnd n b w w' := by
  rcases h with ⟨hb, v, hk, ho⟩ | ⟨hb, v, hk, ho⟩
  · refine (check_fresh b v w hk).mono fun e w' ⟨he, hw⟩ => ⟨he, ?_, ?_⟩
    · subst hw
      exact ⟨hb, v, hk.set_ 0 _, ownsRow_setCell_below ho (a := ⟨b, 0, none⟩) hb _⟩
    · subst hw; exact (Bnd.refl n b w).set 0 _
  · exact (check_used b v w hk).mono fun e w' ⟨he, hw⟩ => ⟨he, by subst hw; exact ⟨hb, v, hk, ho⟩, by subst hw; exact Bnd.refl n b w⟩
theorem strCells_map (s : ByteArray) : Lib.strCells s = s.data.toList.map fun c => Value.int .u8 c.toNat := by
  simp [Lib.strCells]
set_option maxHeartbeats 1000000 in
theorem writeString_any (n b : Nat) (l : List UInt8) (s : ByteArray) (w : World) (h : Build n b l w) (hn : n ≤ w.heap.size) (hl : l.length + s.size ≤ 140737488355328) :
    Calls Try.prog 56 #[.pointer (some ⟨b, 0, none⟩), .string s] w fun e w' => e = .returned (.tuple #[.int .i64 s.size, .nilIface]) ∧ Build n b (l ++ s.data.toList) w' ∧ Bnd n b w w' := by
  obtain ⟨i0, hi, hz0, hz1, hz2⟩ := info_parts infoByte
  have HC := Lib.hid (check_any n b l w h)
  clear h
  have HL := Lib.hid hl
  clear hl
  go_enter Try.func56, Try.ntmps56
  go_wp2_with fail
  refine HC.out.mono ?_
  rintro e w1 ⟨rfl, ⟨hb, v, hk, ho⟩, hB⟩
  have c1 := hk.cell 1
  have hlt := hk.lt
  go_wp2_with (at_builtin; refine Lib.wpList_append_own_string _ rfl _ _ 93 9 rfl n 5 i0 Try.underlying93 Try.underlying9 hi hz0 hz1 hz2 _ _ _ rfl ho s rfl ?c3 ?c4 ?c5 ?_)
  case c3 => have := HL.out; unfold maxLen; omega
  case c4 => exact HL.out
  case c5 => have := hB.size; omega
  intro v' w2 hown' hgrow _
  have hk2 : Blk w2 b 95 #[.pointer (some ⟨b, 0, none⟩), v] := (hgrow.block b hlt (fun e => by
    have h1 := (ho.lt b e.symm).1
    omega)).trans hk
  have d1 := hk2.cell 1
  have f1 := hk2.frozen 1
  have hB2 : Bnd n b w w2 := hB.trans (Bnd.of_below ⟨hgrow.os, hgrow.tape, hgrow.output, hgrow.size, fun k hk' => hgrow.block k (by have := hB.size; omega) (fun e => by
    have h1 := (ho.lt k e.symm).1
    omega)⟩ (KeepsOthers.of_grownBy hgrow (fun j o hj hjo => by
      rcases ho.2 with h | ⟨q, cap, cur, hv, hq, hh, r⟩
      · rw [h.1] at hj; simp [Value.ownBlock] at hj
      · rw [hv] at hj
        simp [Value.ownBlock] at hj
        subst hj
        rw [hh] at hjo; cases hjo; rfl)))
  obtain ⟨ao, n', cap, rfl⟩ : ∃ ao n' cap, v' = .slice ao n' cap := by
    rcases hown'.2 with ⟨hv, _⟩ | ⟨g, cap, cur, hv, _⟩
    · exact ⟨_, _, _, hv⟩
    · exact ⟨_, _, _, hv⟩
  clear c1 hi hz0 hz1 hz2
  go_wp2
  go_ret2
  refine ⟨rfl, .inr ⟨hb, _, hk2.set_ 1 _, ?_⟩, hB2.set 1 _⟩
  have := ownsRow_setCell_below hown' (a := ⟨b, 1, none⟩) hb (Value.slice ao n' cap)
  rw [strCells_map, ← List.map_append] at this
  have e : l.length + s.size = (l ++ s.data.toList).length := by rw [List.length_append]; rfl
  rw [e] at this
  exact this
theorem Build.isBuilder {n b : Nat} {l : List UInt8} {w : World} (h : Build n b l w) : Lib.IsBuilder 95 5 b b (Lib.byteCells l) w := by
  have key : ∀ p, BuildAt n b p l w → Lib.BuilderAt 95 5 b b p (Lib.byteCells l) w := by
    rintro p ⟨hb, v, hk, ho⟩
    have e : Lib.byteCells l = l.map fun c => Value.int .u8 c.toNat := by simp [Lib.byteCells]
    refine ⟨Nat.le_refl _, v, hk, ?_, fun h => ?_⟩
    · rw [e, List.length_map]
      refine ⟨ho.1, ?_⟩
      rcases ho.2 with h | ⟨g, cap, cur, hv, hg, r⟩
      · exact .inl h
      · exact .inr ⟨g, cap, cur, hv, by omega, r⟩
    · have := (ho.lt b h).1; omega
  rcases h with h | h
  · exact .inl (key _ h)
  · exact .inr (key _ h)
theorem builder_String (n b : Nat) (l : List UInt8) (w : World) (h : Build n b l w) (hb : b ≤ w.heap.size) :
    Calls Try.prog 58 #[.pointer (some ⟨b, 0, none⟩)] w fun e w' => e = .returned (.string ⟨l.toArray⟩) ∧ Below b w w' :=
  Try.Builder_String_any b b l w h.isBuilder hb
theorem build_new (w : World) (n : Nat) (h : w.heap.size < n) : Build n w.heap.size [] (w.alloc (.cells #[.pointer none, .slice none 0 0] 95)) :=
  .inl ⟨h, _, Blk.new _ _ _, by simp, .inl ⟨rfl, rfl⟩⟩
theorem Build.bnd {n b g : Nat} {l : List UInt8} {w w' : World} (h : Build n b l w) (hw : ∀ k, k ≠ g → w'.heap[k]? = w.heap[k]?) (hg : g < n) (hgb : g ≠ b) : Build n b l w' := by
  have key : ∀ p, BuildAt n b p l w → BuildAt n b p l w' := by
    rintro p ⟨hb, v, hk, ho⟩
    refine ⟨hb, v, (hw b (Ne.symm hgb)).trans hk, ho.1, ?_⟩
    rcases ho.2 with h | ⟨q, cap, cur, hv, hq, hh, r⟩
    · exact .inl h
    · exact .inr ⟨q, cap, cur, hv, hq, (hw q (by omega)).trans hh, r⟩
  rcases h with h | h
  · exact .inl (key _ h)
  · exact .inr (key _ h)
end Go.Proofs.Ytlogjghbdnaedaa
