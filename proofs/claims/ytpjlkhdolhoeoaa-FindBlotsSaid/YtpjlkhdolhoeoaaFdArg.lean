/- Texts that came in as an argument (chapter 03). -/
import Derived.Test.YtpjlkhdolhoeoaaFdHl
import Derived.SliceStrings
namespace Go.Proofs.Ytpjlkhdolhoeoaa
open Go.Shelf Go.RowKit Go.Lib Go.Maps
set_option linter.unusedVariables false
set_option linter.unusedSimpArgs false
theorem strs_none (w : World) : StrsM w none 0 [] where
  el := rfl
  nn h := absurd h (by omega)
  cell a h := by cases h
  big s h := by cases h
  lb := by omega
theorem strs_some {w : World} {a : Addr} {len cap : Nat} {ss : List ByteArray} (hl : len ≤ cap) (hm : cap ≤ maxLen) (hz : ss.length = cap) (hc : ∀ i, i < ss.length → w.cell? (a.add i) = some (.string (ss.getD i ByteArray.empty))) (hs : ∀ s ∈ ss, s.size ≤ maxLen) :
    StrsM w (some a) len ((ss.take len).map fun s => s.data.toList) where
  el := by rw [List.length_map, List.length_take]; omega
  nn _ := ⟨a, rfl⟩
  cell b hb j s hj := by
    cases hb
    rw [List.getElem?_map] at hj
    obtain ⟨x, hx, rfl⟩ := Option.map_eq_some_iff.1 hj
    have hjl : j < len := by have := get_lt hx; rw [List.length_take] at this; omega
    have h1 := hc j (by omega)
    rw [List.getElem?_take_of_lt hjl] at hx
    rw [List.getD_eq_getElem?_getD, hx] at h1
    exact ⟨by rw [strOf_data]; exact h1, lt_cell h1⟩
  big s h := by
    obtain ⟨x, hx, rfl⟩ := List.mem_map.1 h
    have h1 := hs x (List.mem_of_mem_take hx)
    have h2 : x.data.toList.length = x.size := rfl
    unfold maxLen at h1; omega
  lb := by unfold maxLen at hm; omega
theorem fhitsArg {w : World} {o : Option Addr} {len cap : Nat} {ss : List Bs} (h : StrsM w o len ss) (s : ByteArray) (hs : s.size ≤ maxLen) (f : Int) :
    Calls Try.prog 5 #[.slice o len cap, .string s, .int .i64 f] w fun e w' => e = .returned (.bool true) ∧ Below w.heap.size w w' := by
  have h1 := fhitsLaw (cap := cap) h s.data.toList (by have : s.data.toList.length = s.size := rfl; unfold maxLen at hs; omega) f
  rw [strOf_data] at h1
  exact h1
end Go.Proofs.Ytpjlkhdolhoeoaa
