/- A row of structs, sorted: between the walk's words and the sort's (chapter 03). -/
import Derived.Test.YtpjlkhdolhoeoaaFdLays
import Derived.Test.YtpjlkhdolhoeoaaShelf
import Derived.Test.YtpjlkhdolhoeoaaFdLay
import Derived.Sort.OwnSorted
namespace Go.Proofs.Ytpjlkhdolhoeoaa
open Go.Shelf Go.RowKit Go.Lib Go.Sort Go.Maps
set_option linter.unusedVariables false
set_option linter.unusedSimpArgs false
section
variable {α : Type} [Inhabited α] {enc : α → List Value} {k : Nat}
theorem flatK_list (hk : ∀ x, (enc x).length = k) (hk0 : 0 < k) (l : List α) : (flatK enc k l.toArray).toList = l.flatMap enc := by
  have hlen : (l.flatMap enc).length = l.length * k := by
    rw [List.length_flatMap]
    clear hk0
    induction l with
    | nil => simp
    | cons x r ih => rw [List.map_cons, List.sum_cons, ih, hk, List.length_cons, Nat.succ_mul, Nat.add_comm]
  have hat : ∀ (l : List α) (i c : Nat), i < l.length → c < k → (l.flatMap enc)[i * k + c]? = (enc (l.getD i default))[c]? := by
    intro l
    induction l with
    | nil => intro i c h; simp at h
    | cons x r ih =>
      intro i c h hc
      cases i with
      | zero =>
        rw [List.flatMap_cons, Nat.zero_mul, Nat.zero_add, List.getElem?_append_left (by rw [hk]; exact hc)]
        rfl
      | succ i =>
        rw [List.flatMap_cons, List.getElem?_append_right (by rw [hk, Nat.succ_mul]; omega), hk, show (i + 1) * k + c - k = i * k + c by rw [Nat.succ_mul]; omega, ih i c (by simpa using h) hc]
        rfl
  apply List.ext_getElem?
  intro t
  by_cases ht : t < l.length * k
  · have hd : t / k < l.length := Nat.div_lt_of_lt_mul (by rwa [Nat.mul_comm])
    have hm : t % k < k := Nat.mod_lt _ hk0
    have e1 := hat l (t / k) (t % k) hd hm
    have e2 : t / k * k + t % k = t := by have := Nat.div_add_mod t k; rw [Nat.mul_comm] at this; exact this
    rw [e2] at e1
    rw [e1, Array.getElem?_toList]
    have h1 := get_flatK enc k l.toArray t (by simpa using ht)
    rw [Array.getElem?_eq_getElem (by simpa using ht)]
    rw [getElem!_pos _ t (by simpa using ht)] at h1
    rw [h1]
    have h2 : l.toArray[t / k]! = l.getD (t / k) default := by
      rw [getElem!_pos _ _ (by simpa using hd)]
      simp [List.getD_eq_getElem?_getD, List.getElem?_eq_getElem hd]
    rw [h2, getElem!_pos _ _ (by rw [hk]; exact hm), List.getElem?_eq_getElem (by rw [hk]; exact hm)]
  · rw [List.getElem?_eq_none (by simp; omega), List.getElem?_eq_none (by rw [hlen]; omega)]
theorem holdsK_own {w : World} {base g cap : Nat} {e : TypeId} {l : List α} (hk : ∀ x, (enc x).length = k) (hk0 : 0 < k) (h : w.ownsRow base e k (.slice (some ⟨g, 0, none⟩) l.length cap) l.length (l.flatMap enc)) : HoldsK enc k w g 0 l.toArray ∧ g < w.heap.size := by
  rcases h.2 with ⟨h2, _⟩ | ⟨q, c, cur, hv, hq, hh, r1, r2, r3, r4⟩
  · cases h2
  · simp only [Value.slice.injEq, Option.some.injEq, Addr.mk.injEq] at hv
    obtain ⟨⟨rfl, _, _⟩, _, rfl⟩ := hv
    refine ⟨fun j hj => ?_, (Array.getElem?_eq_some_iff.1 hh).1⟩
    refine ⟨?_, by simp [World.frozen?, hh]⟩
    have hj2 : j < l.length * k := by simpa using hj
    have h1 : (cur.toList.take (l.length * k))[j]? = (flatK enc k l.toArray).toList[j]? := by rw [r4, flatK_list hk hk0]
    rw [List.getElem?_take_of_lt hj2, Array.getElem?_toList, Array.getElem?_toList, Array.getElem?_eq_getElem hj] at h1
    simp only [World.cell?, hh, Nat.zero_add, Option.isSome_none, Bool.false_eq_true, if_false, h1, id]
    rw [getElem!_pos (flatK enc k l.toArray) j hj]
theorem heapK_sorted {w : World} {g n : Nat} {os : Array Obj} {cur : Array Value} {e : TypeId} {fr : Nat × Nat} (d : Array α) (hb : w.heap[g]? = some (.cells cur e fr)) :
    (sortWorldK enc k w g 0 n d os).heap[g]? = some (.cells (putCells id 0 (flatK enc k d) cur) e fr) := by
  have hg : g < w.heap.size := (Array.getElem?_eq_some_iff.1 hb).1
  unfold sortWorldK putRowK
  rw [heap_grow_old _ _ (by simpa using hg)]
  simp [putRow, mapBlock, Sort.ahead, Array.getElem?_modify, hb, onCells]
theorem grownByK {w : World} {g n : Nat} {os : Array Obj} (d : Array α) : w.grownBy (sortWorldK enc k w g 0 n d os) (some g) := by
  unfold sortWorldK putRowK
  refine ⟨rfl, rfl, rfl, by simp, fun j hj hne => ?_⟩
  rw [heap_grow_old _ _ (by simpa using hj)]
  have : g ≠ j := fun e => hne (by rw [e])
  simp [putRow, mapBlock, Sort.ahead, Array.getElem?_modify, this]
theorem ownK_sorted {w : World} {base g cap n : Nat} {e : TypeId} {os : Array Obj} {l ts : List α} (hk : ∀ x, (enc x).length = k) (hk0 : 0 < k) (hl : ts.length = l.length) (h : w.ownsRow base e k (.slice (some ⟨g, 0, none⟩) l.length cap) l.length (l.flatMap enc)) :
    (sortWorldK enc k w g 0 n ts.toArray os).ownsRow base e k (.slice (some ⟨g, 0, none⟩) ts.length cap) ts.length (ts.flatMap enc) := by
  rcases h.2 with ⟨h2, _⟩ | ⟨q, c, cur, hv, hq, hh, r1, r2, r3, r4⟩
  · cases h2
  · simp only [Value.slice.injEq, Option.some.injEq, Addr.mk.injEq] at hv
    obtain ⟨⟨rfl, _, _⟩, _, rfl⟩ := hv
    have hf := flatK_list hk hk0 ts
    have hsz : (ts.flatMap enc).length = ts.length * k := by rw [← hf]; simp
    refine ⟨hsz, .inr ⟨g, cap, _, rfl, hq, heapK_sorted _ hh, by omega, r2, by simp [putCells, r3], ?_⟩⟩
    have hle : ts.length * k ≤ cap * k := Nat.mul_le_mul_right _ (by omega)
    rw [← hf]
    apply List.ext_getElem?
    intro j
    by_cases hj : j < ts.length * k
    · rw [List.getElem?_take_of_lt hj, Array.getElem?_toList, Array.getElem?_toList]
      have hj2 : j < cur.size := by omega
      have hj3 : j < (flatK enc k ts.toArray).size := by simpa using hj
      rw [Array.getElem?_eq_getElem hj3]
      simp only [putCells, Array.getElem?_mapIdx, Array.getElem?_eq_getElem hj2, Option.map_some, Nat.zero_le, true_and, Nat.zero_add, if_pos hj3, id, Nat.sub_zero]
      rw [getElem!_pos (flatK enc k ts.toArray) j hj3]
    · rw [List.getElem?_take_eq_none (by omega), List.getElem?_eq_none (by simp; omega)]
theorem permIn_perm {d d' : Array α} (h : PermIn 0 d.size d d') : d'.toList.Perm d.toList := by
  obtain ⟨h1, _, h3⟩ := h
  rw [Array.extract_eq_self_of_le (by omega), Array.extract_eq_self_of_le (Nat.le_refl _)] at h3
  exact h3
theorem sortedIn_pair {lt : α → α → Bool} {d : Array α} (h : SortedIn lt 0 d.size d) : d.toList.Pairwise fun a b => lt b a = false := by
  rw [List.pairwise_iff_getElem]
  intro i j hi hj hij
  have := h i j (Nat.zero_le _) hij (by simpa using hj)
  rw [getElem!_pos _ _ (by simpa using hj), getElem!_pos _ _ (by simpa using hi)] at this
  simpa using this
end
end Go.Proofs.Ytpjlkhdolhoeoaa
