/- Walks: Blot (chapter 03). -/
import Derived.Test.YtpjlkhdolhoeoaaFdFst
import Derived.Laws.IdiomStrings
import Derived.Laws.BytesString
namespace Go.Proofs.Ytpjlkhdolhoeoaa
open Go.Shelf Go.RowKit Go.Lib Go.Maps
set_option linter.unusedVariables false
set_option linter.unusedSimpArgs false
/-- So many bytes are overwritten, from a place on. -/
def setR (X : Bs) (j : Nat) (by_ : UInt8) : Nat → Bs
  | 0 => X
  | m + 1 => setR (X.set j by_) (j + 1) by_ m
theorem setR_len (by_ : UInt8) : ∀ (m : Nat) (X : Bs) (j : Nat), (setR X j by_ m).length = X.length
  | 0, X, j => rfl
  | m + 1, X, j => by rw [setR, setR_len by_ m]; simp
/-- One hit is blotted: the bytes, how far it is done, how many. -/
def blot1 (ls : List Bs) (by_ : UInt8) (st : Bs × Nat × Nat) (h : Nat × Nat) : Bs × Nat × Nat :=
  let j := max h.1 st.2.1
  let e := h.1 + (ls.getD h.2 []).length
  if j < e then (setR st.1 j by_ (e - j), e, st.2.2 + (e - j)) else st
def blotL (ls : List Bs) (by_ : UInt8) (l : List (Nat × Nat)) (s : Bs) : Bs × Nat × Nat := l.foldl (blot1 ls by_) (s, 0, 0)
theorem blotL_snoc (ls : List Bs) (by_ : UInt8) (l : List (Nat × Nat)) (h : Nat × Nat) (s : Bs) : blotL ls by_ (l ++ [h]) s = blot1 ls by_ (blotL ls by_ l s) h := by simp [blotL]
/-- The bytes' row: it is frozen behind its end alone. -/
def BytM (w : World) (g : Nat) (X : Bs) (cap : Nat) : Prop := ∃ cs : Array Value, w.heap[g]? = some (.cells cs 5 (cap, cap + 1)) ∧ X.length ≤ cap ∧ ∀ (j : Nat) (c : UInt8), X[j]? = some c → cs[j]? = some (Value.int .u8 (c.toNat : Int))
theorem BytM.cell {w : World} {g cap : Nat} {X : Bs} (h : BytM w g X cap) {j : Nat} {c : UInt8} (hj : X[j]? = some c) : w.cell? ⟨g, j, none⟩ = some (.int .u8 (c.toNat : Int)) := by
  obtain ⟨cs, h1, _, h3⟩ := h
  simp [World.cell?, h1, h3 j c hj]
theorem BytM.froz {w : World} {g cap : Nat} {X : Bs} (h : BytM w g X cap) {j : Nat} (hj : j < X.length) : w.frozen? ⟨g, j, none⟩ = false := by
  obtain ⟨cs, h1, h2, _⟩ := h
  simp [World.frozen?, h1]
  omega
theorem BytM.set_ {w : World} {g cap : Nat} {X : Bs} (h : BytM w g X cap) {j : Nat} (hj : j < X.length) (c : UInt8) : BytM (w.setCell ⟨g, j, none⟩ (.int .u8 (c.toNat : Int))) g (X.set j c) cap := by
  obtain ⟨cs, h1, h2, h3⟩ := h
  refine ⟨cs.setIfInBounds j (.int .u8 (c.toNat : Int)), ?_, by simpa using h2, fun i d hi => ?_⟩
  · simp [World.setCell, Array.getElem?_modify, h1]
  · by_cases hij : i = j
    · subst hij
      rw [List.getElem?_set_self hj] at hi
      cases hi
      have := h3 i _ (List.getElem?_eq_getElem hj)
      rw [Array.getElem?_setIfInBounds_self_of_lt (Array.getElem?_eq_some_iff.1 this).1]
    · rw [List.getElem?_set_ne (fun e => hij e.symm)] at hi
      rw [Array.getElem?_setIfInBounds_ne (fun e => hij e.symm)]
      exact h3 i d hi
theorem BytM.keep {w w' : World} {g cap : Nat} {X : Bs} (h : BytM w g X cap) (hk : w'.heap[g]? = w.heap[g]?) : BytM w' g X cap := by
  obtain ⟨cs, h1, r⟩ := h
  exact ⟨cs, hk.trans h1, r⟩
theorem BytM.lt {w : World} {g cap : Nat} {X : Bs} (h : BytM w g X cap) : g < w.heap.size := by
  obtain ⟨cs, h1, _⟩ := h
  exact (Array.getElem?_eq_some_iff.1 h1).1
theorem bytM_new (w : World) (s : Bs) (cap : Nat) (hc : s.length ≤ cap) : BytM (w.alloc (.cells (bytesRow (strOf s) cap) 5 ((bytesRow (strOf s) cap).size, (bytesRow (strOf s) cap).size + 1))) w.heap.size s cap := by
  have hs : (bytesRow (strOf s) cap).size = cap := by
    have h1 := strOf_size s
    have h2 : (strOf s).data.size = s.length := by simp [strOf]
    unfold bytesRow
    rw [Array.size_append, Array.size_map, Array.size_replicate, h1, h2]
    omega
  rw [hs]
  refine ⟨bytesRow (strOf s) cap, heap_alloc_new w _, hc, fun j c hj => ?_⟩
  have hjl := get_lt hj
  unfold bytesRow strOf
  rw [Array.getElem?_append_left (by simpa using hjl)]
  simp [hj]
end Go.Proofs.Ytpjlkhdolhoeoaa
