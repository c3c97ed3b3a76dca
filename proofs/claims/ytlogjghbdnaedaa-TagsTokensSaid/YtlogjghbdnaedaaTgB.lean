/- Walks: names of elements and attributes, by the program and by the document; word, blanks (chapter 11). -/
import Derived.Test.YtlogjghbdnaedaaTgA
namespace Go.Proofs.Ytlogjghbdnaedaa
open Go.RowKit
set_option linter.unusedVariables false
set_option linter.unusedSimpArgs false
def elemZ : List ByteArray := [⟨#[97]⟩, ⟨#[98]⟩, ⟨#[98, 114]⟩, ⟨#[99, 111, 100, 101]⟩, ⟨#[100, 105, 118]⟩, ⟨#[101, 109]⟩, ⟨#[104, 49]⟩, ⟨#[104, 50]⟩, ⟨#[104, 51]⟩, ⟨#[104, 114]⟩, ⟨#[105]⟩, ⟨#[105, 109, 103]⟩, ⟨#[108, 105]⟩, ⟨#[111, 108]⟩, ⟨#[112]⟩, ⟨#[112, 114, 101]⟩, ⟨#[115, 112, 97, 110]⟩, ⟨#[115, 116, 114, 111, 110, 103]⟩, ⟨#[116, 97, 98, 108, 101]⟩, ⟨#[116, 98, 111, 100, 121]⟩, ⟨#[116, 100]⟩, ⟨#[116, 104]⟩, ⟨#[116, 104, 101, 97, 100]⟩, ⟨#[116, 114]⟩, ⟨#[117]⟩, ⟨#[117, 108]⟩]
def attrZ : List ByteArray := [⟨#[97, 108, 116]⟩, ⟨#[99, 108, 97, 115, 115]⟩, ⟨#[99, 111, 108, 115, 112, 97, 110]⟩, ⟨#[104, 114, 101, 102]⟩, ⟨#[105, 100]⟩, ⟨#[114, 111, 119, 115, 112, 97, 110]⟩, ⟨#[115, 114, 99]⟩, ⟨#[116, 105, 116, 108, 101]⟩, ⟨#[119, 105, 100, 116, 104]⟩]
theorem mem_strs (zs : List ByteArray) (x : ByteArray) : x ∈ zs ↔ x.data.toList ∈ zs.map fun z => z.data.toList := by
  constructor
  · intro h; exact List.mem_map_of_mem h
  · intro h
    obtain ⟨z, hz, he⟩ := List.mem_map.1 h
    have : z = x := by rw [← strOf_data z, he, strOf_data]
    rwa [← this]
def inS (zs : List ByteArray) (x : ByteArray) : Bool := decide (x.data.toList ∈ zs.map fun z => z.data.toList)
theorem inS_iff (zs : List ByteArray) (x : ByteArray) : inS zs x = true ↔ x ∈ zs := by
  unfold inS
  rw [decide_eq_true_iff, ← mem_strs]
theorem elemZ_iff (x : ByteArray) : inS elemZ x = isElem x.data.toList := rfl
theorem attrZ_iff (x : ByteArray) : inS attrZ x = isAttr x.data.toList := rfl
theorem strs_cell (zs : List ByteArray) (w : World) (j : Nat) (hj : j < zs.length) : (w.alloc (.cells (zs.map Value.string).toArray 9)).cell? ⟨w.heap.size, j, none⟩ = some (.string (zs.getD j ByteArray.empty)) := by
  rw [Blk.cell (Blk.new w 9 (zs.map Value.string).toArray) j]
  simp [List.getD_eq_getElem?_getD, hj]
theorem has_strs (zs : List ByteArray) (x : ByteArray) (w : World) (hz : zs.length ≤ 1000) :
    Calls Try.prog 50 #[.slice (some ⟨w.heap.size, 0, none⟩) zs.length zs.length, .string x] (w.alloc (.cells (zs.map Value.string).toArray 9)) fun e w' => e = .returned (.bool (inS zs x)) ∧ w.alloc (.cells (zs.map Value.string).toArray 9) = w' := by
  have h := Try.slices_Contains_string w.heap.size 0 zs.length zs.length zs x (w.alloc (.cells (zs.map Value.string).toArray 9)) (Nat.le_refl _) (by omega) (fun j hj => by rw [Nat.zero_add]; exact strs_cell zs w j hj)
  refine h.mono ?_
  rintro e w' ⟨h1, h2⟩
  refine ⟨?_, h2.symm⟩
  rw [h1, List.take_length]
  congr 2
  rw [Bool.eq_iff_iff, Go.Lib.containsS_iff, inS_iff]
set_option maxRecDepth 100000 in
set_option maxHeartbeats 2000000 in
theorem telem (x : ByteArray) (w : World) :
    Calls Try.prog 36 #[.string x] w fun e w' => e = .returned (.bool (isElem x.data.toList)) ∧ Below w.heap.size w w' := by
  have HC : Hid (∀ w : World, Calls Try.prog 50 #[.slice (some ⟨w.heap.size, 0, none⟩) 26 26, .string x] (w.alloc (.cells #[.string ⟨#[97]⟩, .string ⟨#[98]⟩, .string ⟨#[98, 114]⟩, .string ⟨#[99, 111, 100, 101]⟩, .string ⟨#[100, 105, 118]⟩, .string ⟨#[101, 109]⟩, .string ⟨#[104, 49]⟩, .string ⟨#[104, 50]⟩, .string ⟨#[104, 51]⟩, .string ⟨#[104, 114]⟩, .string ⟨#[105]⟩, .string ⟨#[105, 109, 103]⟩, .string ⟨#[108, 105]⟩, .string ⟨#[111, 108]⟩, .string ⟨#[112]⟩, .string ⟨#[112, 114, 101]⟩, .string ⟨#[115, 112, 97, 110]⟩, .string ⟨#[115, 116, 114, 111, 110, 103]⟩, .string ⟨#[116, 97, 98, 108, 101]⟩, .string ⟨#[116, 98, 111, 100, 121]⟩, .string ⟨#[116, 100]⟩, .string ⟨#[116, 104]⟩, .string ⟨#[116, 104, 101, 97, 100]⟩, .string ⟨#[116, 114]⟩, .string ⟨#[117]⟩, .string ⟨#[117, 108]⟩] 9)) fun e w' => e = .returned (.bool (isElem x.data.toList)) ∧ w.alloc (.cells #[.string ⟨#[97]⟩, .string ⟨#[98]⟩, .string ⟨#[98, 114]⟩, .string ⟨#[99, 111, 100, 101]⟩, .string ⟨#[100, 105, 118]⟩, .string ⟨#[101, 109]⟩, .string ⟨#[104, 49]⟩, .string ⟨#[104, 50]⟩, .string ⟨#[104, 51]⟩, .string ⟨#[104, 114]⟩, .string ⟨#[105]⟩, .string ⟨#[105, 109, 103]⟩, .string ⟨#[108, 105]⟩, .string ⟨#[111, 108]⟩, .string ⟨#[112]⟩, .string ⟨#[112, 114, 101]⟩, .string ⟨#[115, 112, 97, 110]⟩, .string ⟨#[115, 116, 114, 111, 110, 103]⟩, .string ⟨#[116, 97, 98, 108, 101]⟩, .string ⟨#[116, 98, 111, 100, 121]⟩, .string ⟨#[116, 100]⟩, .string ⟨#[116, 104]⟩, .string ⟨#[116, 104, 101, 97, 100]⟩, .string ⟨#[116, 114]⟩, .string ⟨#[117]⟩, .string ⟨#[117, 108]⟩] 9) = w') := by
    intro w
    have h := has_strs elemZ x w (by decide)
    rw [elemZ_iff] at h
    exact h
  generalize isElem x.data.toList = b at *
  go_enter Try.func36, Try.ntmps36
  go_wp2_with fail
  refine (HC.out _).mono ?_
  rintro e w2 ⟨rfl, rfl⟩
  go_wp2_with fail
  go_ret
  exact ⟨rfl, (Below.refl _ _).alloc (Nat.le_refl _) _⟩
set_option maxRecDepth 100000 in
set_option maxHeartbeats 2000000 in
theorem tattr (x : ByteArray) (w : World) :
    Calls Try.prog 66 #[.string x] w fun e w' => e = .returned (.bool (isAttr x.data.toList)) ∧ Below w.heap.size w w' := by
  have HC : Hid (∀ w : World, Calls Try.prog 50 #[.slice (some ⟨w.heap.size, 0, none⟩) 9 9, .string x] (w.alloc (.cells #[.string ⟨#[97, 108, 116]⟩, .string ⟨#[99, 108, 97, 115, 115]⟩, .string ⟨#[99, 111, 108, 115, 112, 97, 110]⟩, .string ⟨#[104, 114, 101, 102]⟩, .string ⟨#[105, 100]⟩, .string ⟨#[114, 111, 119, 115, 112, 97, 110]⟩, .string ⟨#[115, 114, 99]⟩, .string ⟨#[116, 105, 116, 108, 101]⟩, .string ⟨#[119, 105, 100, 116, 104]⟩] 9)) fun e w' => e = .returned (.bool (isAttr x.data.toList)) ∧ w.alloc (.cells #[.string ⟨#[97, 108, 116]⟩, .string ⟨#[99, 108, 97, 115, 115]⟩, .string ⟨#[99, 111, 108, 115, 112, 97, 110]⟩, .string ⟨#[104, 114, 101, 102]⟩, .string ⟨#[105, 100]⟩, .string ⟨#[114, 111, 119, 115, 112, 97, 110]⟩, .string ⟨#[115, 114, 99]⟩, .string ⟨#[116, 105, 116, 108, 101]⟩, .string ⟨#[119, 105, 100, 116, 104]⟩] 9) = w') := by
    intro w
    have h := has_strs attrZ x w (by decide)
    rw [attrZ_iff] at h
    exact h
  generalize isAttr x.data.toList = b at *
  go_enter Try.func66, Try.ntmps66
  go_wp2_with fail
  refine (HC.out _).mono ?_
  rintro e w2 ⟨rfl, rfl⟩
  go_wp2_with fail
  go_ret
  exact ⟨rfl, (Below.refl _ _).alloc (Nat.le_refl _) _⟩
set_option maxRecDepth 100000 in
set_option maxHeartbeats 2000000 in
theorem rnames (w : World) :
    Calls Try.prog 44 #[] w fun e w' => e = .returned (.slice (some ⟨w.heap.size, 0, none⟩) 26 26) ∧ w.alloc (.cells #[.string ⟨#[97]⟩, .string ⟨#[98]⟩, .string ⟨#[98, 114]⟩, .string ⟨#[99, 111, 100, 101]⟩, .string ⟨#[100, 105, 118]⟩, .string ⟨#[101, 109]⟩, .string ⟨#[104, 49]⟩, .string ⟨#[104, 50]⟩, .string ⟨#[104, 51]⟩, .string ⟨#[104, 114]⟩, .string ⟨#[105]⟩, .string ⟨#[105, 109, 103]⟩, .string ⟨#[108, 105]⟩, .string ⟨#[111, 108]⟩, .string ⟨#[112]⟩, .string ⟨#[112, 114, 101]⟩, .string ⟨#[115, 112, 97, 110]⟩, .string ⟨#[115, 116, 114, 111, 110, 103]⟩, .string ⟨#[116, 97, 98, 108, 101]⟩, .string ⟨#[116, 98, 111, 100, 121]⟩, .string ⟨#[116, 100]⟩, .string ⟨#[116, 104]⟩, .string ⟨#[116, 104, 101, 97, 100]⟩, .string ⟨#[116, 114]⟩, .string ⟨#[117]⟩, .string ⟨#[117, 108]⟩] 9) = w' := by
  go_enter Try.func44, Try.ntmps44
  go_wp2_with fail
  go_ret
  exact ⟨rfl, rfl⟩
set_option maxRecDepth 100000 in
set_option maxHeartbeats 2000000 in
theorem rattrs (w : World) :
    Calls Try.prog 61 #[] w fun e w' => e = .returned (.slice (some ⟨w.heap.size, 0, none⟩) 9 9) ∧ w.alloc (.cells #[.string ⟨#[97, 108, 116]⟩, .string ⟨#[99, 108, 97, 115, 115]⟩, .string ⟨#[99, 111, 108, 115, 112, 97, 110]⟩, .string ⟨#[104, 114, 101, 102]⟩, .string ⟨#[105, 100]⟩, .string ⟨#[114, 111, 119, 115, 112, 97, 110]⟩, .string ⟨#[115, 114, 99]⟩, .string ⟨#[116, 105, 116, 108, 101]⟩, .string ⟨#[119, 105, 100, 116, 104]⟩] 9) = w' := by
  go_enter Try.func61, Try.ntmps61
  go_wp2_with fail
  go_ret
  exact ⟨rfl, rfl⟩
set_option maxRecDepth 100000 in
set_option maxHeartbeats 2000000 in
theorem rin (zs : List ByteArray) (g n c : Nat) (x : ByteArray) (w : World) (hn : n = zs.length) (hz : zs.length ≤ 1000) (hc : ∀ j, j < zs.length → w.cell? ⟨g, j, none⟩ = some (.string (zs.getD j ByteArray.empty))) :
    Calls Try.prog 43 #[.slice (some ⟨g, 0, none⟩) n c, .string x] w fun e w' => e = .returned (.bool (inS zs x)) ∧ w = w' := by
  have HC := Lib.hid hc
  have HN := Lib.hid hn
  have hn2 : n ≤ 1000 := by omega
  clear hc hn
  go_enter Try.func43, Try.ntmps43
  go_wp2_with fail
  go_loop [5] (fun z => ∃ i : Nat, z = .int .i64 i ∧ i ≤ n ∧ ∀ j, j < i → zs.getD j ByteArray.empty ≠ x) (fun z => n - (intOf z).toNat)
  case atStart => exact ⟨0, rfl, Nat.zero_le _, fun j hj => by omega⟩
  case round =>
    obtain ⟨i, rfl, hi, hs⟩ := hrel
    have HS := Lib.hid hs
    clear hs
    by_cases hlt : i < n
    · have c1 := HC.out i (by have := HN.out; omega)
      have hiz : i < zs.length := by have := HN.out; omega
      have hmem : zs.getD i ByteArray.empty ∈ zs := by
        rw [List.getD_eq_getElem?_getD, List.getElem?_eq_getElem hiz]; exact List.getElem_mem hiz
      have HM := Lib.hid hmem
      obtain ⟨y, hy⟩ : ∃ y, zs.getD i ByteArray.empty = y := ⟨_, rfl⟩
      rw [hy] at c1
      have HY := Lib.hid hy
      clear hy hiz hmem
      obtain ⟨b, hb⟩ : ∃ b, (y.toList == x.toList) = b := ⟨_, rfl⟩
      have HB : Hid ((b = true) ↔ y = x) := by
        show _ ↔ _
        rw [← hb, beq_iff_eq, ByteArray.toList_eq, ByteArray.toList_eq]
        constructor
        · intro h; rw [← strOf_data y, h, strOf_data]
        · intro h; rw [h]
      cases b
      · have HNE : Hid (y ≠ x) := fun h => by have := HB.out.2 h; cases this
        clear HB
        go_wp2_with fail
        go_round
        case rel =>
          refine ⟨i + 1, by go_num, hlt, fun j hj => ?_⟩
          rcases Nat.lt_or_ge j i with h | h
          · exact HS.out j h
          · obtain rfl : j = i := by omega
            rw [HY.out]; exact HNE.out
        case measure => simp [intOf]; omega
      · have HV : Hid (inS zs x = true) := by
          show _ = _
          refine (inS_iff _ _).2 ?_
          have := HM.out
          rw [HY.out, HB.out.1 rfl] at this
          exact this
        clear HB
        go_wp2_with fail
        go_ret
        exact ⟨by rw [HV.out]; rfl, rfl⟩
    · have HV : Hid (inS zs x = false) := by
        show _ = _
        refine Bool.eq_false_iff.2 (fun h0 => ?_)
        have h := (inS_iff _ _).1 h0
        obtain ⟨j, hj⟩ := List.getElem?_of_mem h
        have hjl := (List.getElem?_eq_some_iff.1 hj).1
        have := HS.out j (by have := HN.out; omega)
        rw [List.getD_eq_getElem?_getD, hj] at this
        exact this rfl
      go_wp2_with fail
      go_ret
      exact ⟨by rw [HV.out]; rfl, rfl⟩
set_option maxHeartbeats 1000000 in
theorem tvoid (x : ByteArray) (w : World) :
    Calls Try.prog 18 #[.string x] w fun e w' => e = .returned (.bool (isVoid x.data.toList)) ∧ w = w' := by
  have hx : x.toList = x.data.toList := ByteArray.toList_eq x
  have key : isVoid x.data.toList = (x.toList == [98, 114] || (x.toList == [104, 114] || x.toList == [105, 109, 103])) := by
    rw [hx]
    unfold isVoid voidL
    rw [Bool.eq_iff_iff]
    simp
  rw [key]
  clear key hx
  cases h1 : x.toList == [98, 114] with
  | true =>
    go_enter Try.func18, Try.ntmps18
    go_wp2
    go_ret
    exact ⟨rfl, rfl⟩
  | false =>
    cases h2 : x.toList == [104, 114] with
    | true =>
      go_enter Try.func18, Try.ntmps18
      go_wp2
      go_ret
      exact ⟨rfl, rfl⟩
    | false =>
      cases h3 : x.toList == [105, 109, 103] with
      | true =>
        go_enter Try.func18, Try.ntmps18
        go_wp2
        go_ret
        exact ⟨rfl, rfl⟩
      | false =>
        go_enter Try.func18, Try.ntmps18
        go_wp2
        go_ret
        exact ⟨rfl, rfl⟩
set_option maxHeartbeats 1000000 in
theorem rvoid (x : ByteArray) (w : World) :
    Calls Try.prog 19 #[.string x] w fun e w' => e = .returned (.bool (isVoid x.data.toList)) ∧ w = w' := by
  have hx : x.toList = x.data.toList := ByteArray.toList_eq x
  have key : isVoid x.data.toList = (x.toList == [98, 114] || (x.toList == [104, 114] || x.toList == [105, 109, 103])) := by
    rw [hx]
    unfold isVoid voidL
    rw [Bool.eq_iff_iff]
    simp
  rw [key]
  clear key hx
  cases h1 : x.toList == [98, 114] with
  | true =>
    go_enter Try.func19, Try.ntmps19
    go_wp2
    go_ret
    exact ⟨rfl, rfl⟩
  | false =>
    cases h2 : x.toList == [104, 114] with
    | true =>
      go_enter Try.func19, Try.ntmps19
      go_wp2
      go_ret
      exact ⟨rfl, rfl⟩
    | false =>
      cases h3 : x.toList == [105, 109, 103] with
      | true =>
        go_enter Try.func19, Try.ntmps19
        go_wp2
        go_ret
        exact ⟨rfl, rfl⟩
      | false =>
        go_enter Try.func19, Try.ntmps19
        go_wp2
        go_ret
        exact ⟨rfl, rfl⟩
theorem name_cases (c : Nat) : (nameB c = true ∧ ((97 ≤ c ∧ c ≤ 122) ∨ (c < 97 ∧ 48 ≤ c ∧ c ≤ 57))) ∨ (nameB c = false ∧ (c < 48 ∨ (58 ≤ c ∧ c < 97) ∨ 123 ≤ c)) := by
  unfold nameB nameK
  by_cases h : (97 ≤ c ∧ c ≤ 122) ∨ (48 ≤ c ∧ c ≤ 57)
  · left; exact ⟨decide_eq_true h, by omega⟩
  · right; exact ⟨decide_eq_false h, by omega⟩
set_option maxRecDepth 100000 in
set_option maxHeartbeats 4000000 in
theorem rword (s : ByteArray) (k : Nat) (w : World) (hk : k ≤ s.size) (hs : s.size ≤ 1000000) :
    Calls Try.prog 42 #[.string s, .int .i64 k] w fun e w' => e = .returned (.string (strOf (runT nameB s.data.toList k))) ∧ w = w' := by
  have hl := Lib.hid (sz_len s)
  go_enter Try.func42, Try.ntmps42
  go_wp2_with fail
  go_loop [1] (fun i => ∃ j : Nat, i = .int .i64 j ∧ k ≤ j ∧ j ≤ s.size ∧ runE nameB s.data.toList k = runE nameB s.data.toList j) (fun i => s.size - (intOf i).toNat)
  case atStart => exact ⟨k, rfl, Nat.le_refl _, hk, rfl⟩
  case round =>
    obtain ⟨j, rfl, hkj, hj, he⟩ := hrel
    have HE := Lib.hid he
    clear he
    by_cases hlt : j < s.size
    · have hx := bt_byte s j hlt
      have y0 := bt_lt s.data.toList j
      rcases name_cases (bt s.data.toList j) with ⟨hd, hc⟩ | ⟨hd, hc⟩
      · have HS : Hid (runE nameB s.data.toList k = runE nameB s.data.toList (j + 1)) := by show _ = _; rw [HE.out, runE_yes (by rw [← hl.out]; exact hlt) hd]
        clear hd
        generalize bt s.data.toList j = c at *
        rcases hc with ⟨h1, h2⟩ | ⟨h1, h2, h3⟩
        all_goals
          go_wp2_with fail
          go_round
          case rel => exact ⟨j + 1, by go_num, by omega, by omega, HS.out⟩
          case measure => simp [intOf]; omega
      · have HS : Hid (runE nameB s.data.toList k = j) := by show _ = _; rw [HE.out, runE_no hd]
        have HT : Hid (runT nameB s.data.toList k = (s.extract k j).data.toList) := by
          show _ = _
          unfold runT
          rw [HS.out, ← ext_eq s k j hj, strOf_list]
        clear hd
        generalize bt s.data.toList j = c at *
        rcases hc with h1 | ⟨h1, h2⟩ | h1
        · have d1 : c ≤ 57 := by omega
          have d2 : c ≤ 122 := by omega
          have d3 : c < 97 := by omega
          go_wp2_with fail
          go_ret
          exact ⟨by rw [HT.out, strOf_data]; rfl, rfl⟩
        · have d2 : c ≤ 122 := by omega
          have d3 : 48 ≤ c := by omega
          have d4 : 57 < c := by omega
          go_wp2_with fail
          go_ret
          exact ⟨by rw [HT.out, strOf_data]; rfl, rfl⟩
        · have d1 : 97 ≤ c := by omega
          have d2 : 122 < c := by omega
          have d3 : 48 ≤ c := by omega
          have d4 : 57 < c := by omega
          go_wp2_with fail
          go_ret
          exact ⟨by rw [HT.out, strOf_data]; rfl, rfl⟩
    · obtain rfl : j = s.size := by omega
      have HS : Hid (runE nameB s.data.toList k = s.size) := by show _ = _; rw [HE.out, runE_out _ _ _ (by rw [← hl.out]; exact Nat.le_refl _)]
      have HT : Hid (runT nameB s.data.toList k = (s.extract k s.size).data.toList) := by
        show _ = _
        unfold runT
        rw [HS.out, ← ext_eq s k s.size hj, strOf_list]
      go_wp2_with fail
      go_ret
      exact ⟨by rw [HT.out, strOf_data]; rfl, rfl⟩
theorem gap_cases (c : Nat) : (gapB c = true ∧ (c = 32 ∨ c = 9 ∨ c = 10)) ∨ (gapB c = false ∧ ((c : Int) == 32) = false ∧ ((c : Int) == 9) = false ∧ ((c : Int) == 10) = false) := by
  unfold gapB gapK
  by_cases h : c = 32 ∨ c = 9 ∨ c = 10
  · left; exact ⟨decide_eq_true h, h⟩
  · right; exact ⟨decide_eq_false h, by simp; omega, by simp; omega, by simp; omega⟩
set_option maxRecDepth 100000 in
set_option maxHeartbeats 4000000 in
theorem rblanks (s : ByteArray) (k : Nat) (w : World) (hk : k ≤ s.size) (hs : s.size ≤ 1000000) :
    Calls Try.prog 60 #[.string s, .int .i64 k] w fun e w' => e = .returned (.int .i64 (runE gapB s.data.toList k)) ∧ w = w' := by
  have hl := Lib.hid (sz_len s)
  go_enter Try.func60, Try.ntmps60
  go_wp2_with fail
  go_loop [1] (fun i => ∃ j : Nat, i = .int .i64 j ∧ k ≤ j ∧ j ≤ s.size ∧ runE gapB s.data.toList k = runE gapB s.data.toList j) (fun i => s.size - (intOf i).toNat)
  case atStart => exact ⟨k, rfl, Nat.le_refl _, hk, rfl⟩
  case round =>
    obtain ⟨j, rfl, hkj, hj, he⟩ := hrel
    have HE := Lib.hid he
    clear he
    by_cases hlt : j < s.size
    · have hx := bt_byte s j hlt
      have y0 := bt_lt s.data.toList j
      rcases gap_cases (bt s.data.toList j) with ⟨hd, hc⟩ | ⟨hd, h1, h2, h3⟩
      · have HS : Hid (runE gapB s.data.toList k = runE gapB s.data.toList (j + 1)) := by show _ = _; rw [HE.out, runE_yes (by rw [← hl.out]; exact hlt) hd]
        clear hd
        generalize bt s.data.toList j = c at *
        rcases hc with rfl | rfl | rfl
        all_goals
          go_wp2_with fail
          go_round
          case rel => exact ⟨j + 1, by go_num, by omega, by omega, HS.out⟩
          case measure => simp [intOf]; omega
      · have HS : Hid (runE gapB s.data.toList k = j) := by show _ = _; rw [HE.out, runE_no hd]
        clear hd
        generalize bt s.data.toList j = c at *
        go_wp2_with fail
        go_ret
        exact ⟨by rw [HS.out]; rfl, rfl⟩
    · obtain rfl : j = s.size := by omega
      have HS : Hid (runE gapB s.data.toList k = s.size) := by show _ = _; rw [HE.out, runE_out _ _ _ (by rw [← hl.out]; exact Nat.le_refl _)]
      go_wp2_with fail
      go_ret
      exact ⟨by rw [HS.out]; rfl, rfl⟩
end Go.Proofs.Ytlogjghbdnaedaa
