/- Walks: the program's hook reader: what takes its parts (chapter 37). -/
import Derived.Test.YtdfnlcigbmiafaaJvW
import Derived.Test.YtdfnlcigbmiafaaQuoI
import Derived.Deep.RegionLaw
import Derived.Lib.IndexMore
import Derived.Test.YtdfnlcigbmiafaaJsW
import Derived.Outline
import Derived.Test.YtdfnlcigbmiafaaUtfJ
import Derived.Test.YtdfnlcigbmiafaaJtG4
namespace Go.Proofs.Ytdfnlcigbmiafaa
open Go.RowKit
set_option linter.unusedVariables false
set_option linter.unusedSimpArgs false
set_option linter.constructorNameAsVariable false
/-- The reader in memory: what is left, and the hook so far. -/
def Hr (w : World) (g : Nat) (s : ByteArray) (F : Bool) (R B : ByteArray) : Prop := Blk w g 60 #[.string s, .bool F, .string R, .string B]
section
variable {w w' : World} {g : Nat} {s R B : ByteArray} {F : Bool}
theorem Hr.c0 (h : Hr w g s F R B) : w.cell? ⟨g, 0, none⟩ = some (.string s) := Blk.cell h 0
theorem Hr.c1 (h : Hr w g s F R B) : w.cell? ⟨g, 1, none⟩ = some (.bool F) := Blk.cell h 1
theorem Hr.c2 (h : Hr w g s F R B) : w.cell? ⟨g, 2, none⟩ = some (.string R) := Blk.cell h 2
theorem Hr.c3 (h : Hr w g s F R B) : w.cell? ⟨g, 3, none⟩ = some (.string B) := Blk.cell h 3
theorem Hr.f (h : Hr w g s F R B) (i : Nat) : w.frozen? ⟨g, i, none⟩ = false := Blk.frozen h i
theorem Hr.drew (h : Hr w g s F R B) : Hr w.drew g s F R B := h
theorem Hr.s0 (h : Hr w g s F R B) (x : ByteArray) : Hr (w.setCell ⟨g, 0, none⟩ (.string x)) g x F R B := Blk.set_ h 0 (.string x)
theorem Hr.s1 (h : Hr w g s F R B) (x : Bool) : Hr (w.setCell ⟨g, 1, none⟩ (.bool x)) g s x R B := Blk.set_ h 1 (.bool x)
theorem Hr.s2 (h : Hr w g s F R B) (x : ByteArray) : Hr (w.setCell ⟨g, 2, none⟩ (.string x)) g s F x B := Blk.set_ h 2 (.string x)
theorem Hr.s3 (h : Hr w g s F R B) (x : ByteArray) : Hr (w.setCell ⟨g, 3, none⟩ (.string x)) g s F R x := Blk.set_ h 3 (.string x)
theorem Hr.bel (h : Hr w g s F R B) (hb : Below w.heap.size w w') : Hr w' g s F R B := Blk.below h hb (Blk.lt h)
theorem Hr.lt (h : Hr w g s F R B) : g < w.heap.size := Blk.lt h
end
theorem cell_lt37 {w : World} {g o : Nat} {u : Value} (h : w.cell? ⟨g, o, none⟩ = some u) : g < w.heap.size := by
  rcases Nat.lt_or_ge g w.heap.size with h1 | h1
  · exact h1
  · exfalso; simp [World.cell?, Array.getElem?_eq_none h1] at h
theorem cell_same {w w' : World} {p : Addr} (h : w'.heap[p.block]? = w.heap[p.block]?) : w'.cell? p = w.cell? p := by
  unfold World.cell?; rw [h]
/-- The cell of the machine's own variable that a search reads. -/
def MaxC (w : World) : Prop := ∃ m : Int, w.cell? ⟨0, 0, none⟩ = some (.int .i64 m)
theorem MaxC.only {g : Nat} {w w' : World} (h : MaxC w) (hg : 0 < g) (ho : Only g w w') : MaxC w' := by
  obtain ⟨m, hm⟩ := h
  have hlt : 0 < w.heap.size := cell_lt37 hm
  exact ⟨m, by rw [← hm]; exact cell_same (ho.block 0 hlt (by omega))⟩
theorem MaxC.bel {B : Nat} {w w' : World} (h : MaxC w) (hb : Below B w w') (hB : 0 < B) : MaxC w' := by
  obtain ⟨m, hm⟩ := h
  exact ⟨m, by rw [← hm]; exact cell_same (hb.block 0 hB)⟩
theorem MaxC.drew {w : World} (h : MaxC w) : MaxC w.drew := h
def trimB (s p : ByteArray) : ByteArray := ⟨(Lib.trimPrefix s.data.toList p.data.toList).toArray⟩
theorem take_any (g : Nat) (s p : ByteArray) (F : Bool) (R B : ByteArray) (w : World) (h : Hr w g s F R B) :
    Calls Try.prog 48 #[.pointer (some ⟨g, 0, none⟩), .string p] w fun e w' => e = .returned (.bool (Lib.hasPrefix s.data.toList p.data.toList)) ∧ Hr w' g (trimB s p) F R B ∧ Only g w w' := by
  have HC : Hid (∀ w, Calls Try.prog 66 #[.string s, .string p] w fun e w' => e = .returned (.tuple #[.string (trimB s p), .bool (Lib.hasPrefix s.data.toList p.data.toList)]) ∧ w' = w) := fun w => Try.strings_CutPrefix s p w
  have c0 := h.c0
  have f0 := h.f 0
  have HH := Lib.hid h
  clear h
  generalize Lib.hasPrefix s.data.toList p.data.toList = b at *
  generalize trimB s p = t at *
  go_enter Try.func48, Try.ntmps48
  go_wp2_with fail
  refine (HC.out _).mono ?_
  rintro e w2 ⟨rfl, rfl⟩
  go_wp2_with fail
  go_ret
  exact ⟨rfl, HH.out.s0 t, (Only.refl g _).set 0 _⟩
/-- What taking the receiver leaves. -/
def RecvR (o : Option (List UInt8 × List UInt8)) (g : Nat) (F : Bool) (B : ByteArray) (e : Ending) (w' : World) : Prop := match o with
  | none => e = .returned (.bool false)
  | some (r, x) => e = .returned (.bool true) ∧ Hr w' g (strOf x) F (strOf r) B
theorem trim_yes {s p : ByteArray} (h : Lib.hasPrefix s.data.toList p.data.toList = true) : trimB s p = strOf (s.data.toList.drop p.data.toList.length) := by
  unfold trimB Lib.trimPrefix; rw [if_pos h]; rfl
theorem trim_no {s p : ByteArray} (h : Lib.hasPrefix s.data.toList p.data.toList = false) : trimB s p = s := by
  unfold trimB Lib.trimPrefix; rw [if_neg (by rw [h]; decide)]
theorem extract_head (s : ByteArray) (i : Nat) (h : i ≤ s.size) : s.extract 0 i = strOf (s.data.toList.take i) := by
  apply ba_ext
  rw [strOf_list]
  simp [List.extract_eq_take_drop]
theorem extract_tail (s : ByteArray) (i : Nat) (h : i ≤ s.size) : s.extract i s.size = strOf (s.data.toList.drop i) := by
  apply ba_ext
  rw [strOf_list]
  have := sz_len s
  simp [List.extract_eq_take_drop]
  exact List.take_of_length_le (by rw [List.length_drop]; omega)
set_option maxRecDepth 100000 in
set_option maxHeartbeats 4000000 in
theorem receiver_any (g : Nat) (s : ByteArray) (F : Bool) (R B : ByteArray) (w : World) (hs : s.size ≤ 2000) (h : Hr w g s F R B) (hg : 0 < g) (hm : MaxC w) :
    Calls Try.prog 26 #[.pointer (some ⟨g, 0, none⟩)] w fun e w' => RecvR (recvP s.data.toList) g F B e w' ∧ Only g w w' := by
  have HT := Lib.hid (take_any g s ({ data := #[123, 34, 114, 101, 99, 101, 105, 118, 101, 114, 34, 58, 34] } : ByteArray) F R B w h)
  have HM := Lib.hid hm
  have hsl := sz_len s
  by_cases hp : Lib.hasPrefix s.data.toList opensL = true
  · have hp2 : Lib.hasPrefix s.data.toList ({ data := #[123, 34, 114, 101, 99, 101, 105, 118, 101, 114, 34, 58, 34] } : ByteArray).data.toList = true := hp
    rw [trim_yes hp2, hp2, show ({ data := #[123, 34, 114, 101, 99, 101, 105, 118, 101, 114, 34, 58, 34] } : ByteArray).data.toList.length = 13 from rfl] at HT
    obtain ⟨x, hx⟩ : ∃ x, s.data.toList.drop 13 = x := ⟨_, rfl⟩
    rw [hx] at HT
    have hxl : x.length ≤ 2000 := by rw [← hx, List.length_drop]; omega
    have HV : Hid (recvP s.data.toList = if Lib.index x statL < 0 then none else (readJ (x.take (Lib.index x statL).toNat)).map fun r => (r, x.drop (Lib.index x statL).toNat)) := by
      show _ = _
      unfold recvP; rw [if_pos hp, hx]
    have HI : Hid (∀ w, MaxC w → Calls Try.prog 49 #[.string (strOf x), .string ({ data := #[34, 44, 34, 115, 116, 97, 116, 117, 115, 34, 58, 34] } : ByteArray)] w fun e w' => e = .returned (.int .i64 (Lib.index x statL)) ∧ w' = w) := by
      rintro w ⟨m, hm⟩
      have := Try.strings_Index (strOf x) ({ data := #[34, 44, 34, 115, 116, 97, 116, 117, 115, 34, 58, 34] } : ByteArray) m w (by rw [strOf_size]; omega) hm
      rw [strOf_list] at this
      exact this
    have hle := Lib.index_le x statL
    have hge := Lib.index_ge x statL
    clear hp hp2 hm h hx hsl
    by_cases hneg : Lib.index x statL < 0
    · rw [if_pos hneg] at HV
      generalize Lib.index x statL = i at *
      go_enter Try.func26, Try.ntmps26
      go_wp2_with fail
      refine HT.out.mono ?_
      rintro e w2 ⟨rfl, h2, o2⟩
      have c0 := h2.c0
      have HM2 := Lib.hid (HM.out.only hg o2)
      go_wp2_with fail
      refine (HI.out _ HM2.out).mono ?_
      rintro e w3 ⟨rfl, rfl⟩
      go_wp2_with fail
      go_ret
      exact ⟨by rw [HV.out]; rfl, o2⟩
    · rw [if_neg hneg] at HV
      obtain ⟨i, hi⟩ : ∃ i : Nat, Lib.index x statL = i := ⟨(Lib.index x statL).toNat, by omega⟩
      rw [hi] at HV HI hle
      rw [show ((i : Int)).toNat = i from rfl] at HV
      clear hi hge hneg
      have hil : i ≤ x.length := by omega
      have zx : (strOf x).size = x.length := strOf_size x
      have i1 : (0 : Int) ≤ (i : Int) := by omega
      have i2 : (i : Int) ≤ ((strOf x).size : Int) := by omega
      have e1 : (strOf x).extract 0 i = strOf (x.take i) := by
        have := extract_head (strOf x) i (by omega)
        rw [strOf_list] at this; exact this
      have e2 : (strOf x).extract i (strOf x).size = strOf (x.drop i) := by
        have := extract_tail (strOf x) i (by omega)
        rw [strOf_list] at this; exact this
      have HJ : Hid (∀ w, Calls Try.prog 50 #[.string (strOf (x.take i))] w fun e W' => e = .returned (readV (readJ (x.take i))) ∧ Below w.heap.size w W') := by
        intro w
        have := read_any (strOf (x.take i)) w (by rw [strOf_size, List.length_take]; omega)
        rw [strOf_list] at this
        exact this
      have hor : (readJ (x.take i) = none ∧ readV (readJ (x.take i)) = .tuple #[.string ⟨#[]⟩, .int .i64 7]) ∨ (∃ r, readJ (x.take i) = some r ∧ readV (readJ (x.take i)) = .tuple #[.string (strOf r), .int .i64 0]) := by
        cases readJ (x.take i) with
        | none => exact .inl ⟨rfl, rfl⟩
        | some r => exact .inr ⟨r, rfl, rfl⟩
      generalize strOf (x.take i) = X1 at *
      have HXd : Hid (∀ r : List UInt8, ∀ w', Hr w' g (strOf (x.drop i)) F (strOf r) B → RecvR (some (r, x.drop i)) g F B (.returned (.bool true)) w') := fun r w' h => ⟨rfl, h⟩
      obtain ⟨v, hv⟩ : ∃ v, strOf (x.drop i) = v := ⟨_, rfl⟩
      rw [hv] at e2 HXd
      clear hv
      generalize hX : strOf x = X at *
      clear hX hle zx
      rcases hor with ⟨hn, hr⟩ | ⟨r, hn, hr⟩
      all_goals
        rw [hr] at HJ
        rw [hn] at HV
        clear hr hn
        go_enter Try.func26, Try.ntmps26
        go_wp2_with fail
        refine HT.out.mono ?_
        rintro e w2 ⟨rfl, h2, o2⟩
        have c0 := h2.c0
        have HM2 := Lib.hid (HM.out.only hg o2)
        go_wp2_with fail
        refine (HI.out _ HM2.out).mono ?_
        rintro e w3 ⟨rfl, rfl⟩
        go_wp2_with fail
        refine (HJ.out _).mono ?_
        rintro e w4 ⟨rfl, b4⟩
        have h4 := h2.bel b4
        have O4 := Lib.hid (o2.trans (Only.of_below b4))
        clear c0 h2 o2 b4 HM2
        have c0 := h4.c0
        have f0 := h4.f 0
        have f2 := h4.f 2
        have c2 := h4.c2
        have H4 := Lib.hid h4
        clear h4
        go_upto_region 7 with fail
        go_region_law (fail)
        all_goals
          go_wp2_with fail
          go_ret
          first
          | exact ⟨by rw [HV.out]; rfl, ((O4.out.set 2 _).set 0 _).drew⟩
          | exact ⟨by rw [HV.out]; exact HXd.out r _ ((H4.out.s2 (strOf r)).s0 v).drew, ((O4.out.set 2 _).set 0 _).drew⟩
  · have hp2 : Lib.hasPrefix s.data.toList ({ data := #[123, 34, 114, 101, 99, 101, 105, 118, 101, 114, 34, 58, 34] } : ByteArray).data.toList = false := by rw [← Bool.not_eq_true]; exact hp
    rw [hp2] at HT
    have HV : Hid (recvP s.data.toList = none) := by show _ = _; unfold recvP; rw [if_neg hp]
    clear hp hp2 hm h hsl
    go_enter Try.func26, Try.ntmps26
    go_wp2_with fail
    refine HT.out.mono ?_
    rintro e w2 ⟨rfl, h2, o2⟩
    go_wp2_with fail
    go_ret
    exact ⟨by rw [HV.out]; rfl, o2⟩
/-- What taking the status leaves. -/
def StatR (o : Option (Bool × List UInt8)) (g : Nat) (R B : ByteArray) (e : Ending) (w' : World) : Prop := match o with
  | none => e = .returned (.bool false)
  | some (f, y) => e = .returned (.bool true) ∧ Hr w' g (strOf y) f R B
set_option maxRecDepth 100000 in
set_option maxHeartbeats 4000000 in
theorem status_any (g : Nat) (s : ByteArray) (F : Bool) (R B : ByteArray) (w : World) (hs : s.size ≤ 2000) (h : Hr w g s F R B) :
    Calls Try.prog 27 #[.pointer (some ⟨g, 0, none⟩)] w fun e w' => StatR (statP s.data.toList) g R B e w' ∧ Only g w w' := by
  have hz1 : ({ data := #[34, 44, 34, 115, 116, 97, 116, 117, 115, 34, 58, 34] } : ByteArray) ++ wordB true = strOf (statL ++ wordL true) := rfl
  have hz2 : ({ data := #[34, 44, 34, 115, 116, 97, 116, 117, 115, 34, 58, 34] } : ByteArray) ++ wordB false = strOf (statL ++ wordL false) := rfl
  have q1 : ¬ 9223372036854775807 < 12 + (wordB true).size := by decide
  have q2 : ¬ 9223372036854775807 < 12 + (wordB false).size := by decide
  have HW1 := Lib.hid (fun w => word_any true w)
  have HW2 := Lib.hid (fun w => word_any false w)
  have HT1 := Lib.hid (fun F w h => take_any g s (strOf (statL ++ wordL true)) F R B w h)
  have HT2 := Lib.hid (fun F w h => take_any g s (strOf (statL ++ wordL false)) F R B w h)
  by_cases hp : Lib.hasPrefix s.data.toList (statL ++ wordL true) = true
  · have hp2 : Lib.hasPrefix s.data.toList (strOf (statL ++ wordL true)).data.toList = true := by rw [strOf_list]; exact hp
    rw [hp2, trim_yes hp2, strOf_list, show (statL ++ wordL true).length = 18 from rfl] at HT1
    have HV : Hid (statP s.data.toList = some (true, s.data.toList.drop 18)) := by show _ = _; unfold statP; rw [if_pos hp]
    clear hp hp2 HT2 HW2 q2 hz2
    obtain ⟨y, hy⟩ : ∃ y, s.data.toList.drop 18 = y := ⟨_, rfl⟩
    rw [hy] at HT1 HV
    clear hy
    generalize hS1 : strOf y = S1 at HT1
    have HS1 := Lib.hid hS1
    clear hS1
    generalize wordB true = Wt at *
    generalize strOf (statL ++ wordL true) = Z1 at *
    go_enter Try.func27, Try.ntmps27
    go_upto_region 1 with fail
    go_region_held3 (fun w' => True) (trivial) (first | (go_at_call 18; refine (HW1.out _).mono ?_; rintro e w3 ⟨rfl, rfl⟩) | (go_at_call 48; refine (HT1.out _ _ h.drew).mono ?_; rintro e w4 ⟨rfl, h4, o4⟩; have f1 := h4.f 1; have c1 := h4.c1))
    have H5 := Lib.hid (h4.s1 true)
    have O5 := Lib.hid ((Only.refl g w).drew.trans (o4.set 1 (.bool true)))
    clear h4 o4 f1 c1 h
    go_upto_region 2 with fail
    generalize w4.setCell ⟨g, 1, none⟩ (.bool true) = W5 at *
    have c1 : W5.drew.cell? ⟨g, 1, none⟩ = some (.bool true) := H5.out.c1
    refine wp_region_held_drew (S := (fun w' => w'.cell? ⟨g, 1, none⟩ = some (.bool true))) (by kernel_rfl) (by with_reducible exact c1) (fun hHeld => ?_)
    refine wpAnyH_take (i := 0) (v := ?_) rfl (by kernel_rfl) (by kernel_rfl) (by kernel_rfl) (fun _ _ _ h => h) (Or.inl ⟨by rfl, ?_⟩) (by assumption) ?_
    rotate_left
    · intro w hSw
      go_simp
      try rfl
    simp only [Act.put, List.setIfInBounds_toArray, List.set_cons_zero, List.set_cons_succ, List.getElem_toArray, List.getElem_cons_succ, List.getElem_cons_zero]
    refine wpAnyH_take (i := 1) (v := ?_) rfl (by kernel_rfl) (by kernel_rfl) (by kernel_rfl) (fun _ _ _ h => h) (Or.inl ⟨by rfl, ?_⟩) (by assumption) ?_
    rotate_left
    · intro w hSw
      go_simp
      try rfl
    simp only [Act.put, List.setIfInBounds_toArray, List.set_cons_zero, List.set_cons_succ, List.getElem_toArray, List.getElem_cons_succ, List.getElem_cons_zero]
    refine wpAnyH_take (i := 2) (v := ?_) rfl (by kernel_rfl) (by kernel_rfl) (by kernel_rfl) (fun _ _ _ h => h) (Or.inl ⟨by rfl, ?_⟩) (by assumption) ?_
    rotate_left
    · intro w hSw
      go_simp
      try rfl
    simp only [Act.put, List.setIfInBounds_toArray, List.set_cons_zero, List.set_cons_succ, List.getElem_toArray, List.getElem_cons_succ, List.getElem_cons_zero]
    refine wpAnyH_take (i := 3) (v := ?_) rfl (by kernel_rfl) (by kernel_rfl) (by kernel_rfl) (fun _ _ _ h => h) (Or.inl ⟨by rfl, ?_⟩) (by assumption) ?_
    rotate_left
    · intro w hSw
      go_simp
      try rfl
    simp only [Act.put, List.setIfInBounds_toArray, List.set_cons_zero, List.set_cons_succ, List.getElem_toArray, List.getElem_cons_succ, List.getElem_cons_zero]
    refine wpAnyH_take (i := 4) (v := ?_) rfl (by kernel_rfl) (by kernel_rfl) (by kernel_rfl) (fun _ _ _ h => h) (Or.inl ⟨by rfl, ?_⟩) (by assumption) ?_
    rotate_left
    · intro w hSw
      go_simp
      try rfl
    simp only [Act.put, List.setIfInBounds_toArray, List.set_cons_zero, List.set_cons_succ, List.getElem_toArray, List.getElem_cons_succ, List.getElem_cons_zero]
    refine wpAnyH_take (i := 5) (v := ?_) rfl (by kernel_rfl) (by kernel_rfl) (by kernel_rfl) (fun _ _ _ h => h) (Or.inl ⟨by rfl, ?_⟩) (by assumption) ?_
    rotate_left
    · intro w hSw
      go_simp
      try rfl
    simp only [Act.put, List.setIfInBounds_toArray, List.set_cons_zero, List.set_cons_succ, List.getElem_toArray, List.getElem_cons_succ, List.getElem_cons_zero]
    refine wpAnyH_take (i := 6) (v := undef) rfl (by kernel_rfl) (by kernel_rfl) (by kernel_rfl) (fun _ _ _ h => h) (Or.inr ⟨by rfl, rfl⟩) (by assumption) ?_
    simp only [Act.put, List.setIfInBounds_toArray, List.set_cons_zero, List.set_cons_succ, List.getElem_toArray, List.getElem_cons_succ, List.getElem_cons_zero]
    refine wpAnyH_take (i := 7) (v := undef) rfl (by kernel_rfl) (by kernel_rfl) (by kernel_rfl) (fun _ _ _ h => h) (Or.inr ⟨by rfl, rfl⟩) (by assumption) ?_
    simp only [Act.put, List.setIfInBounds_toArray, List.set_cons_zero, List.set_cons_succ, List.getElem_toArray, List.getElem_cons_succ, List.getElem_cons_zero]
    refine wpAnyH_take (i := 8) (v := undef) rfl (by kernel_rfl) (by kernel_rfl) (by kernel_rfl) (fun _ _ _ h => h) (Or.inr ⟨by rfl, rfl⟩) (by assumption) ?_
    simp only [Act.put, List.setIfInBounds_toArray, List.set_cons_zero, List.set_cons_succ, List.getElem_toArray, List.getElem_cons_succ, List.getElem_cons_zero]
    refine wpAnyH_take (i := 9) (v := undef) rfl (by kernel_rfl) (by kernel_rfl) (by kernel_rfl) (fun _ _ _ h => h) (Or.inr ⟨by rfl, rfl⟩) (by assumption) ?_
    simp only [Act.put, List.setIfInBounds_toArray, List.set_cons_zero, List.set_cons_succ, List.getElem_toArray, List.getElem_cons_succ, List.getElem_cons_zero]
    refine wpAnyH_take (i := 10) (v := undef) rfl (by kernel_rfl) (by kernel_rfl) (by kernel_rfl) (fun _ _ _ h => h) (Or.inr ⟨by rfl, rfl⟩) (by assumption) ?_
    simp only [Act.put, List.setIfInBounds_toArray, List.set_cons_zero, List.set_cons_succ, List.getElem_toArray, List.getElem_cons_succ, List.getElem_cons_zero]
    refine wpAnyH_take (i := 11) (v := undef) rfl (by kernel_rfl) (by kernel_rfl) (by kernel_rfl) (fun _ _ _ h => h) (Or.inr ⟨by rfl, rfl⟩) (by assumption) ?_
    simp only [Act.put, List.setIfInBounds_toArray, List.set_cons_zero, List.set_cons_succ, List.getElem_toArray, List.getElem_cons_succ, List.getElem_cons_zero]
    refine wpAnyH_take (i := 12) (v := ?_) rfl (by kernel_rfl) (by kernel_rfl) (by kernel_rfl) (fun _ _ _ h => h) (Or.inl ⟨by rfl, ?_⟩) (by assumption) ?_
    rotate_left
    · intro w hSw
      go_simp
      try rfl
    simp only [Act.put, List.setIfInBounds_toArray, List.set_cons_zero, List.set_cons_succ, List.getElem_toArray, List.getElem_cons_succ, List.getElem_cons_zero]
    refine wpAnyH_take (i := 13) (v := ?_) rfl (by kernel_rfl) (by kernel_rfl) (by kernel_rfl) (fun _ _ _ h => h) (Or.inl ⟨by rfl, ?_⟩) (by assumption) ?_
    rotate_left
    · intro w hSw
      go_simp
      try rfl
    simp only [Act.put, List.setIfInBounds_toArray, List.set_cons_zero, List.set_cons_succ, List.getElem_toArray, List.getElem_cons_succ, List.getElem_cons_zero]
    refine wpAnyH_done (by kernel_rfl) ?_ _
    clear hHeld
    go_wp2_with fail
    go_ret
    exact ⟨by rw [HV.out]; exact ⟨rfl, by rw [HS1.out]; exact H5.out.drew⟩, O5.out.drew⟩
  · have hp2 : Lib.hasPrefix s.data.toList (strOf (statL ++ wordL true)).data.toList = false := by rw [strOf_list, ← Bool.not_eq_true]; exact hp
    rw [hp2, trim_no hp2] at HT1
    obtain ⟨b2, S2, hb2, hV⟩ : ∃ b2 S2, (Lib.hasPrefix s.data.toList (statL ++ wordL false) = b2 ∧ trimB s (strOf (statL ++ wordL false)) = S2) ∧ ∀ (g : Nat) (R B : ByteArray) (w' : World), Hr w' g S2 false R B → StatR (statP s.data.toList) g R B (.returned (.bool b2)) w' := by
      refine ⟨_, _, ⟨rfl, rfl⟩, fun g R B w' h => ?_⟩
      unfold statP
      rw [if_neg hp]
      by_cases hq : Lib.hasPrefix s.data.toList (statL ++ wordL false) = true
      · rw [if_pos hq, hq]
        rw [trim_yes (by rw [strOf_list]; exact hq), strOf_list] at h
        exact ⟨rfl, h⟩
      · rw [if_neg hq, Bool.eq_false_iff.2 hq]; rfl
    rw [strOf_list, hb2.1, hb2.2] at HT2
    have HV := Lib.hid hV
    clear hp hp2 hb2 hV
    generalize wordB true = Wt at *
    generalize strOf (statL ++ wordL true) = Z1 at *
    generalize wordB false = Wf at *
    generalize strOf (statL ++ wordL false) = Z2 at *
    go_enter Try.func27, Try.ntmps27
    go_upto_region 1 with fail
    go_region_held3 (fun w' => True) (trivial) (first | (go_at_call 18; refine (HW1.out _).mono ?_; rintro e w3 ⟨rfl, rfl⟩) | (go_at_call 48; refine (HT1.out _ _ h.drew).mono ?_; rintro e w4 ⟨rfl, h4, o4⟩; have f1 := h4.f 1; have c1 := h4.c1))
    have H5 := Lib.hid (h4.s1 false)
    have O5 := Lib.hid ((Only.refl g w).drew.trans (o4.set 1 (.bool false)))
    clear h4 o4 f1 c1 h
    go_upto_region 2 with fail
    generalize w4.setCell ⟨g, 1, none⟩ (.bool false) = W5 at *
    have c1 : W5.drew.cell? ⟨g, 1, none⟩ = some (.bool false) := H5.out.c1
    go_region_held3 (fun w' => w'.cell? ⟨g, 1, none⟩ = some (.bool false)) (first | (with_reducible exact c1) | (exact h6.c1)) (first | (go_at_call 18; refine (HW2.out _).mono ?_; rintro e w5 ⟨rfl, rfl⟩) | (go_at_call 48; refine (HT2.out _ _ H5.out.drew).mono ?_; rintro e w6 ⟨rfl, h6, o6⟩))
    go_wp2_with fail
    go_ret
    exact ⟨HV.out _ _ _ _ h6, O5.out.drew.trans o6⟩
/-- What taking the body leaves. -/
def BodyR (o : Option (List UInt8)) (g : Nat) (F : Bool) (R : ByteArray) (e : Ending) (w' : World) : Prop := match o with
  | none => e = .returned (.bool false)
  | some b => e = .returned (.bool true) ∧ ∃ s', Hr w' g s' F R (strOf b)
set_option maxRecDepth 100000 in
set_option maxHeartbeats 4000000 in
theorem body_any (g : Nat) (s : ByteArray) (F : Bool) (R B : ByteArray) (w : World) (hs : s.size ≤ 2000) (h : Hr w g s F R B) :
    Calls Try.prog 28 #[.pointer (some ⟨g, 0, none⟩)] w fun e w' => BodyR (bodyP s.data.toList) g F R e w' ∧ Only g w w' := by
  have HT := Lib.hid (take_any g s ({ data := #[34, 44, 34, 98, 111, 100, 121, 34, 58] } : ByteArray) F R B w h)
  by_cases hp : Lib.hasPrefix s.data.toList bodyL = true
  · have hp2 : Lib.hasPrefix s.data.toList ({ data := #[34, 44, 34, 98, 111, 100, 121, 34, 58] } : ByteArray).data.toList = true := hp
    rw [trim_yes hp2, hp2, show ({ data := #[34, 44, 34, 98, 111, 100, 121, 34, 58] } : ByteArray).data.toList.length = 9 from rfl] at HT
    obtain ⟨x, hx⟩ : ∃ x, s.data.toList.drop 9 = x := ⟨_, rfl⟩
    rw [hx] at HT
    have hxl : x.length ≤ 2000 := by rw [← hx, List.length_drop]; have := sz_len s; omega
    have HC : Hid (∀ w, Calls Try.prog 51 #[.string (strOf x), .string ({ data := #[125] } : ByteArray)] w fun e w' => e = .returned (.tuple #[.string (strOf (Lib.trimSuffix x [125])), .bool (Lib.hasSuffix x [125])]) ∧ w' = w) := by
      intro w
      have := Try.strings_CutSuffix (strOf x) ({ data := #[125] } : ByteArray) w (by rw [strOf_size]; omega)
      rw [strOf_list] at this
      exact this
    have HV : Hid (∀ w', (∃ s', Hr w' g s' F R (strOf (Lib.trimSuffix x [125]))) → BodyR (bodyP s.data.toList) g F R (.returned (.bool (Lib.hasSuffix x [125]))) w') := by
      intro w' h
      unfold bodyP
      rw [if_pos hp, hx]
      by_cases hq : Lib.hasSuffix x [125] = true
      · rw [if_pos hq, hq]
        unfold Lib.trimSuffix at h
        rw [if_pos hq] at h
        exact ⟨rfl, h⟩
      · rw [if_neg hq, Bool.eq_false_iff.2 hq]; rfl
    clear hp hp2 hx hxl h
    generalize strOf (Lib.trimSuffix x [125]) = T at *
    generalize Lib.hasSuffix x [125] = b at *
    generalize strOf x = X at *
    go_enter Try.func28, Try.ntmps28
    go_wp2_with fail
    refine HT.out.mono ?_
    rintro e w2 ⟨rfl, h2, o2⟩
    have c0 := h2.c0
    have f3 := h2.f 3
    have c3 := h2.c3
    go_wp2_with fail
    refine (HC.out _).mono ?_
    rintro e w3 ⟨rfl, rfl⟩
    go_wp2_with fail
    go_ret
    exact ⟨HV.out _ ⟨_, h2.s3 T⟩, o2.set 3 _⟩
  · have hp2 : Lib.hasPrefix s.data.toList ({ data := #[34, 44, 34, 98, 111, 100, 121, 34, 58] } : ByteArray).data.toList = false := by rw [← Bool.not_eq_true]; exact hp
    rw [hp2] at HT
    have HV : Hid (bodyP s.data.toList = none) := by show _ = _; unfold bodyP; rw [if_neg hp]
    clear hp hp2 h
    go_enter Try.func28, Try.ntmps28
    go_wp2_with fail
    refine HT.out.mono ?_
    rintro e w2 ⟨rfl, h2, o2⟩
    go_wp2_with fail
    go_ret
    exact ⟨by rw [HV.out]; rfl, o2⟩
end Go.Proofs.Ytdfnlcigbmiafaa

/- Walks: the document's hook reader (chapter 37). -/
namespace Go.Proofs.Ytdfnlcigbmiafaa
open Go.RowKit
set_option linter.unusedVariables false
set_option linter.unusedSimpArgs false
set_option linter.constructorNameAsVariable false
/-- What a reader hands back. -/
def readV37 (o : Option (Bool × List UInt8 × List UInt8)) : Value := match o with
  | some (f, r, b) => .tuple #[.agg #[.bool f, .string (strOf r), .string (strOf b)], .int .i64 0]
  | none => .tuple #[.agg #[.bool false, .string ⟨#[]⟩, .string ⟨#[]⟩], .int .i64 7]
theorem rtok_two (s : ByteArray) (w : World) (hs : s.size ≤ 100000) : Calls Try.prog 23 #[.string s] w fun e w' => (∃ v1 v2, e = .returned (.tuple #[v1, v2])) ∧ Below w.heap.size w w' := by
  refine (rtokens_any s w hs).mono fun e w' h => ⟨?_, h.2⟩
  have h1 := h.1
  unfold TokR at h1
  split at h1
  · obtain ⟨v, h2, _⟩ := h1; exact ⟨_, _, h2⟩
  · exact ⟨_, _, h1⟩
theorem rowW_len37 {w : World} {ok : Nat → Prop} {v : Value} {n : Nat} {xs : List Value} (h : RowW w ok v n xs) : ∃ o c, v = .slice o n c := by
  rcases h with ⟨hv, h0, _⟩ | ⟨g, cap, hv, _⟩
  · exact ⟨_, _, by rw [hv, h0]⟩
  · exact ⟨_, _, hv⟩
set_option maxRecDepth 100000 in
set_option maxHeartbeats 4000000 in
theorem hread_err (s : ByteArray) (c : Nat) (w : World) (hs : s.size ≤ 100000) (hp : parseJ s.data.toList = .error c) :
    Calls Try.prog 14 #[.string s] w fun e w' => e = .returned (readV37 (readR s.data.toList)) ∧ Below w.heap.size w w' := by
  have HV : Hid (readR s.data.toList = none) := by show _ = _; unfold readR; rw [hp]
  have hc : c = 7 ∨ c = 8 := by
    unfold parseJ at hp
    split at hp
    · cases hp; exact .inl rfl
    · split at hp
      · cases hp; exact .inl rfl
      · split at hp
        · split at hp
          · cases hp; exact .inr rfl
          · cases hp
        · cases hp; exact .inl rfl
  have HPa := Lib.hid (fun w => rparse_any s w hs)
  rw [hp] at HPa
  have HP : Hid (∀ w, Calls Try.prog 12 #[.string s] w fun e w' => e = .returned (.tuple #[.agg #[.int .u8 0, .string ⟨#[]⟩, .slice none 0 0, .slice none 0 0], .int .i64 c]) ∧ Below w.heap.size w w') := HPa
  have HT := Lib.hid (fun w => rtok_two s w hs)
  clear HPa hp
  have HR1 := Lib.hid (Blk.new w 23 #[.bool false, .string ⟨#[]⟩, .string ⟨#[]⟩])
  have HB1 := Lib.hid ((Below.refl w.heap.size w).alloc (Nat.le_refl _) (.cells #[.bool false, .string ⟨#[]⟩, .string ⟨#[]⟩] 23))
  go_enter Try.func14, Try.ntmps14
  go_upto_region 1 with fail
  generalize hW : w.alloc (.cells #[.bool false, .string ⟨#[]⟩, .string ⟨#[]⟩] 23) = W1 at *
  clear hW
  go_wp2_with fail
  refine (HP.out _).mono ?_
  rintro e w2 ⟨rfl, b2⟩
  have HR2 := Lib.hid ((HR1.out.below b2 HR1.out.lt).alloc (.cells #[.int .u8 0, .string ⟨#[]⟩, .slice none 0 0, .slice none 0 0] 34))
  have HB2 := Lib.hid ((HB1.out.trans (b2.mono HB1.out.size)).alloc (HB1.out.trans (b2.mono HB1.out.size)).size (.cells #[.int .u8 0, .string ⟨#[]⟩, .slice none 0 0, .slice none 0 0] 34))
  clear b2 HR1 HB1
  go_upto_region 2 with fail
  generalize hW : w2.alloc (.cells #[.int .u8 0, .string ⟨#[]⟩, .slice none 0 0, .slice none 0 0] 34) = W3 at *
  clear hW
  go_wp2_with fail
  refine (HT.out _).mono ?_
  rintro e w4 ⟨⟨v1, v2, rfl⟩, b4⟩
  have hR := HR2.out.below b4 HR2.out.lt
  have hB := HB2.out.trans (b4.mono HB2.out.size)
  clear b4 HR2 HB2 HT HP
  rcases hc with rfl | rfl
  all_goals
    have r0 := hR.cell 0
    have r1 := hR.cell 1
    have r2 := hR.cell 2
    have f0 := hR.frozen 0
    have f1 := hR.frozen 1
    have f2 := hR.frozen 2
    go_wp2_with fail
    have hF := ((hR.set_ 0 (.bool false)).set_ 1 (.string ⟨#[]⟩)).set_ 2 (.string ⟨#[]⟩)
    have s0 : (World.setCell _ _ _).cell? _ = some (.bool false) := hF.cell 0
    have s1 : (World.setCell _ _ _).cell? _ = some (.string ⟨#[]⟩) := hF.cell 1
    have s2 : (World.setCell _ _ _).cell? _ = some (.string ⟨#[]⟩) := hF.cell 2
    exact bodyPost_ret (v := .tuple #[.agg #[.bool false, .string ⟨#[]⟩, .string ⟨#[]⟩], .int .i64 7]) (by simp [results, Try.f14, go_sem, s0, s1, s2]) rfl ⟨by rw [HV.out]; rfl, ((hB.setCell (p := ⟨w.heap.size, 0, none⟩) (Nat.le_refl _) _).setCell (p := ⟨w.heap.size, 1, none⟩) (Nat.le_refl _) _).setCell (p := ⟨w.heap.size, 2, none⟩) (Nat.le_refl _) _⟩
set_option maxRecDepth 100000 in
set_option maxHeartbeats 4000000 in
theorem hread_kind (s : ByteArray) (n : Node) (w : World) (hs : s.size ≤ 100000) (hp : parseJ s.data.toList = .ok n) (hk : ¬ (n.kind = 123 ∧ n.kids.length = 3)) :
    Calls Try.prog 14 #[.string s] w fun e w' => e = .returned (readV37 (readR s.data.toList)) ∧ Below w.heap.size w w' := by
  have HV : Hid (readR s.data.toList = none) := by show _ = _; unfold readR; rw [hp]; exact if_neg hk
  have HPa := Lib.hid (fun w => rparse_any s w hs)
  rw [hp] at HPa
  have HP : Hid (∀ w, Calls Try.prog 12 #[.string s] w fun e w' => (∃ (q : Nat) (x : ByteArray) (o1 : Option Addr) (m1 c1 : Nat) (o2 : Option Addr) (c2 : Nat), q = n.kind ∧ e = .returned (.tuple #[.agg #[.int .u8 q, .string x, .slice o1 m1 c1, .slice o2 n.kids.length c2], .int .i64 0])) ∧ Below w.heap.size w w') := by
    intro w
    refine (HPa.out w).mono fun e w' h => ⟨?_, h.2⟩
    obtain ⟨a, b, c, d, h1, h2⟩ := h.1
    obtain ⟨q, t, ks, ns⟩ := n
    unfold NodeW at h2
    obtain ⟨kv, nv, cs, hv, h3, h4, _⟩ := h2
    obtain ⟨o1, c1, rfl⟩ := rowW_len37 h3
    obtain ⟨o2, c2, rfl⟩ := rowW_len37 h4
    simp only [Value.agg.injEq, Array.mk.injEq, List.cons.injEq, and_true] at hv
    obtain ⟨rfl, rfl, rfl, rfl⟩ := hv
    exact ⟨q, _, o1, _, c1, o2, c2, rfl, h1⟩
  have HT := Lib.hid (fun w => rtok_two s w hs)
  obtain ⟨kk, hkk⟩ : ∃ kk, n.kind = kk := ⟨_, rfl⟩
  obtain ⟨m2, hm2⟩ : ∃ m2, n.kids.length = m2 := ⟨_, rfl⟩
  rw [hkk, hm2] at hk HP
  clear HPa hp hkk hm2
  have HR1 := Lib.hid (Blk.new w 23 #[.bool false, .string ⟨#[]⟩, .string ⟨#[]⟩])
  have HB1 := Lib.hid ((Below.refl w.heap.size w).alloc (Nat.le_refl _) (.cells #[.bool false, .string ⟨#[]⟩, .string ⟨#[]⟩] 23))
  go_enter Try.func14, Try.ntmps14
  go_upto_region 1 with fail
  generalize hW : w.alloc (.cells #[.bool false, .string ⟨#[]⟩, .string ⟨#[]⟩] 23) = W1 at *
  clear hW
  go_wp2_with fail
  refine (HP.out _).mono ?_
  rintro e w2 ⟨⟨q, x, o1, m1, c1, o2, c2, rfl, rfl⟩, b2⟩
  have HR2 := Lib.hid ((HR1.out.below b2 HR1.out.lt).alloc (.cells #[.int .u8 q, .string x, .slice o1 m1 c1, .slice o2 m2 c2] 34))
  have HN2 := Lib.hid (Blk.new w2 34 #[.int .u8 q, .string x, .slice o1 m1 c1, .slice o2 m2 c2])
  have HB2 := Lib.hid ((HB1.out.trans (b2.mono HB1.out.size)).alloc (HB1.out.trans (b2.mono HB1.out.size)).size (.cells #[.int .u8 q, .string x, .slice o1 m1 c1, .slice o2 m2 c2] 34))
  clear b2 HR1 HB1
  go_upto_region 2 with fail
  generalize hBN : w2.heap.size = BN at *
  generalize hW : w2.alloc (.cells #[.int .u8 q, .string x, .slice o1 m1 c1, .slice o2 m2 c2] 34) = W3 at *
  clear hW hBN
  go_wp2_with fail
  refine (HT.out _).mono ?_
  rintro e w4 ⟨⟨v1, v2, rfl⟩, b4⟩
  have hR := HR2.out.below b4 HR2.out.lt
  have hN := HN2.out.below b4 HN2.out.lt
  have hB := HB2.out.trans (b4.mono HB2.out.size)
  clear b4 HR2 HB2 HT HP HN2
  have n0 := hN.cell 0
  have n3 := hN.cell 3
  have r0 := hR.cell 0
  have r1 := hR.cell 1
  have r2 := hR.cell 2
  have f0 := hR.frozen 0
  have f1 := hR.frozen 1
  have f2 := hR.frozen 2
  by_cases hq : q = 123
  · subst hq
    have hm : ((m2 : Int) == 3) = false := by have : ¬ m2 = 3 := fun h => hk ⟨rfl, h⟩; simp; omega
    clear hk
    go_wp2_with fail
    have hF := ((hR.set_ 0 (.bool false)).set_ 1 (.string ⟨#[]⟩)).set_ 2 (.string ⟨#[]⟩)
    have s0 : (World.setCell _ _ _).cell? _ = some (.bool false) := hF.cell 0
    have s1 : (World.setCell _ _ _).cell? _ = some (.string ⟨#[]⟩) := hF.cell 1
    have s2 : (World.setCell _ _ _).cell? _ = some (.string ⟨#[]⟩) := hF.cell 2
    exact bodyPost_ret (v := .tuple #[.agg #[.bool false, .string ⟨#[]⟩, .string ⟨#[]⟩], .int .i64 7]) (by simp [results, Try.f14, go_sem, s0, s1, s2]) rfl ⟨by rw [HV.out]; rfl, ((hB.setCell (p := ⟨w.heap.size, 0, none⟩) (Nat.le_refl _) _).setCell (p := ⟨w.heap.size, 1, none⟩) (Nat.le_refl _) _).setCell (p := ⟨w.heap.size, 2, none⟩) (Nat.le_refl _) _⟩
  · have hm : ((q : Int) == 123) = false := by simp; omega
    clear hk hq
    go_wp2_with fail
    have hF := ((hR.set_ 0 (.bool false)).set_ 1 (.string ⟨#[]⟩)).set_ 2 (.string ⟨#[]⟩)
    have s0 : (World.setCell _ _ _).cell? _ = some (.bool false) := hF.cell 0
    have s1 : (World.setCell _ _ _).cell? _ = some (.string ⟨#[]⟩) := hF.cell 1
    have s2 : (World.setCell _ _ _).cell? _ = some (.string ⟨#[]⟩) := hF.cell 2
    exact bodyPost_ret (v := .tuple #[.agg #[.bool false, .string ⟨#[]⟩, .string ⟨#[]⟩], .int .i64 7]) (by simp [results, Try.f14, go_sem, s0, s1, s2]) rfl ⟨by rw [HV.out]; rfl, ((hB.setCell (p := ⟨w.heap.size, 0, none⟩) (Nat.le_refl _) _).setCell (p := ⟨w.heap.size, 1, none⟩) (Nat.le_refl _) _).setCell (p := ⟨w.heap.size, 2, none⟩) (Nat.le_refl _) _⟩
/-- The kids of a node of three, in memory: the texts of the first two. -/
theorem node_three {w : World} {B : Nat} {q : Nat} {t : List UInt8} {ks : List (List UInt8)} {n1 n2 n3 : Node} {a b c d : Value} (h : NodeW w (fun g => B ≤ g) (.mk q t ks [n1, n2, n3]) (.agg #[a, b, c, d])) :
    ∃ (x : ByteArray) (o1 : Option Addr) (m1 c1 g c2 : Nat), a = .int .u8 q ∧ b = .string x ∧ c = .slice o1 m1 c1 ∧ d = .slice (some ⟨g, 0, none⟩) 3 c2 ∧ g < w.heap.size ∧ w.cell? ⟨g, 1, none⟩ = some (.string (strOf n1.text)) ∧ w.cell? ⟨g, 5, none⟩ = some (.string (strOf n2.text)) := by
  unfold NodeW at h
  obtain ⟨kv, nv, cs, hv, h3, h4, h5⟩ := h
  obtain ⟨o1, c1, rfl⟩ := rowW_len37 h3
  simp only [Value.agg.injEq, Array.mk.injEq, List.cons.injEq, and_true] at hv
  obtain ⟨rfl, rfl, rfl, rfl⟩ := hv
  rcases h4 with ⟨_, h0, _⟩ | ⟨g, c2, hv2, hg, hl, hc⟩
  · cases h0
  obtain ⟨a1, b1, c1', d1, e1, e2, e3, e4, x1⟩ := KidsW.at _ cs 0 n1 h5 rfl
  obtain ⟨a2, b2, c2', d2, g1, g2, g3, g4, x2⟩ := KidsW.at _ cs 1 n2 h5 rfl
  obtain ⟨q1, t1, k1, l1⟩ := n1
  obtain ⟨q2, t2, k2, l2⟩ := n2
  unfold NodeW at x1 x2
  obtain ⟨kv1, nv1, cs1, hv1, _⟩ := x1
  obtain ⟨kv2, nv2, cs2, hv22, _⟩ := x2
  simp only [Value.agg.injEq, Array.mk.injEq, List.cons.injEq, and_true] at hv1 hv22
  obtain ⟨rfl, rfl, rfl, rfl⟩ := hv1
  obtain ⟨rfl, rfl, rfl, rfl⟩ := hv22
  exact ⟨_, o1, _, c1, g, c2, rfl, rfl, rfl, hv2, hl, hc _ _ e2, hc _ _ g2⟩
end Go.Proofs.Ytdfnlcigbmiafaa

/- Walks: the program's hook reader: Read (chapter 37). -/
namespace Go.Proofs.Ytdfnlcigbmiafaa
open Go.RowKit
set_option linter.unusedVariables false
set_option linter.unusedSimpArgs false
set_option linter.constructorNameAsVariable false
theorem recvP_len {l r x : List UInt8} (h : recvP l = some (r, x)) : r.length ≤ l.length ∧ x.length ≤ l.length := by
  unfold recvP at h
  split at h
  · split at h
    · cases h
    · cases hr : readJ ((l.drop 13).take (Lib.index (l.drop 13) statL).toNat) with
      | none => rw [hr] at h; cases h
      | some u =>
        rw [hr] at h
        cases h
        have := readJ_len _ _ _ (Nat.le_refl _) hr
        rw [List.length_take, List.length_drop] at this
        exact ⟨by omega, by rw [List.length_drop, List.length_drop]; omega⟩
  · cases h
theorem statP_len {x y : List UInt8} {f : Bool} (h : statP x = some (f, y)) : y.length ≤ x.length := by
  unfold statP at h
  split at h
  · cases h; rw [List.length_drop]; omega
  · split at h
    · cases h; rw [List.length_drop]; omega
    · cases h
theorem bodyP_len {y b : List UInt8} (h : bodyP y = some b) : b.length ≤ y.length := by
  unfold bodyP at h
  split at h
  · split at h
    · cases h; rw [List.length_take, List.length_drop]; omega
    · cases h
  · cases h
/-- What the reader holds when so many of its parts are taken. -/
def StepI (l : List UInt8) (g : Nat) (wr : World) : Nat → Prop
  | 0 => Hr wr g (strOf l) false ⟨#[]⟩ ⟨#[]⟩
  | 1 => ∃ r x, recvP l = some (r, x) ∧ Hr wr g (strOf x) false (strOf r) ⟨#[]⟩
  | 2 => ∃ r x f y, recvP l = some (r, x) ∧ statP x = some (f, y) ∧ Hr wr g (strOf y) f (strOf r) ⟨#[]⟩
  | _ => ∃ r x f y b s', recvP l = some (r, x) ∧ statP x = some (f, y) ∧ bodyP y = some b ∧ Hr wr g s' f (strOf r) (strOf b)
set_option maxRecDepth 100000 in
set_option maxHeartbeats 8000000 in
theorem wread_any (s : ByteArray) (w : World) (hs : s.size ≤ 2000) (hm : MaxC w) :
    Calls Try.prog 13 #[.string s] w fun e w' => e = .returned (readV37 (readP s.data.toList)) ∧ Below w.heap.size w w' := by
  have HR1 := Lib.hid ((Blk.new w 23 #[.bool false, .string ⟨#[]⟩, .string ⟨#[]⟩]).alloc (.cells #[.string s, .bool false, .string ⟨#[]⟩, .string ⟨#[]⟩] 60))
  have HG1 := Lib.hid (Blk.new (w.alloc (.cells #[.bool false, .string ⟨#[]⟩, .string ⟨#[]⟩] 23)) 60 #[.string s, .bool false, .string ⟨#[]⟩, .string ⟨#[]⟩])
  rw [World.size_alloc] at HG1
  have HB1 := Lib.hid (((Below.refl w.heap.size w).alloc (Nat.le_refl _) (.cells #[.bool false, .string ⟨#[]⟩, .string ⟨#[]⟩] 23)).alloc (by rw [World.size_alloc]; exact Nat.le_succ _) (.cells #[.string s, .bool false, .string ⟨#[]⟩, .string ⟨#[]⟩] 60))
  have hw0 : 0 < w.heap.size := by obtain ⟨m, h⟩ := hm; exact cell_lt37 h
  have HM1 := Lib.hid (hm.bel HB1.out hw0)
  have HL := Lib.hid (sz_len s)
  have HSl := Lib.hid (strOf_data s)
  have HBu : Hid (∀ (f : Bool) (r b : List UInt8) (w : World), r.length ≤ 2000 → b.length ≤ 2000 → Calls Try.prog 8 #[.agg #[.bool f, .string (strOf r), .string (strOf b)]] w fun e w' => e = .returned (.tuple #[.string (hookT f r b), .int .i64 (hookE r b)]) ∧ Below w.heap.size w w') := by
    intro f r b w hr hb
    have := wbuild_any f (strOf r) (strOf b) w (by rw [strOf_size]; omega) (by rw [strOf_size]; omega)
    rw [strOf_list, strOf_list] at this
    exact this
  have HS : Hid (∀ l : List UInt8, ((strOf l).toList == s.toList) = decide (l = s.data.toList)) := fun l => by rw [ByteArray.toList_eq, ByteArray.toList_eq, strOf_list]; by_cases h : l = s.data.toList <;> simp [h]
  clear hm
  go_enter Try.func13, Try.ntmps13
  go_upto_region 2 with fail
  generalize hW : (w.alloc (.cells #[.bool false, .string ⟨#[]⟩, .string ⟨#[]⟩] 23)).alloc (.cells #[.string s, .bool false, .string ⟨#[]⟩, .string ⟨#[]⟩] 60) = W1 at *
  clear hW
  have hga : w.heap.size + 1 < W1.heap.size := HG1.out.lt
  have HA2 := Lib.hid (Blk.new W1 29 #[.func (Fn.func 26) #[.pointer (some ⟨w.heap.size + 1, 0, none⟩)] #[], .func (Fn.func 27) #[.pointer (some ⟨w.heap.size + 1, 0, none⟩)] #[], .func (Fn.func 28) #[.pointer (some ⟨w.heap.size + 1, 0, none⟩)] #[]])
  have HR2 := Lib.hid (HR1.out.alloc (.cells #[.func (Fn.func 26) #[.pointer (some ⟨w.heap.size + 1, 0, none⟩)] #[], .func (Fn.func 27) #[.pointer (some ⟨w.heap.size + 1, 0, none⟩)] #[], .func (Fn.func 28) #[.pointer (some ⟨w.heap.size + 1, 0, none⟩)] #[]] 29))
  have HG2 := Lib.hid (HG1.out.alloc (.cells #[.func (Fn.func 26) #[.pointer (some ⟨w.heap.size + 1, 0, none⟩)] #[], .func (Fn.func 27) #[.pointer (some ⟨w.heap.size + 1, 0, none⟩)] #[], .func (Fn.func 28) #[.pointer (some ⟨w.heap.size + 1, 0, none⟩)] #[]] 29))
  have HB2 := Lib.hid (HB1.out.alloc HB1.out.size (.cells #[.func (Fn.func 26) #[.pointer (some ⟨w.heap.size + 1, 0, none⟩)] #[], .func (Fn.func 27) #[.pointer (some ⟨w.heap.size + 1, 0, none⟩)] #[], .func (Fn.func 28) #[.pointer (some ⟨w.heap.size + 1, 0, none⟩)] #[]] 29))
  have HM2 := Lib.hid (HM1.out.bel (((Below.refl W1.heap.size W1).alloc (Nat.le_refl _) (.cells #[.func (Fn.func 26) #[.pointer (some ⟨w.heap.size + 1, 0, none⟩)] #[], .func (Fn.func 27) #[.pointer (some ⟨w.heap.size + 1, 0, none⟩)] #[], .func (Fn.func 28) #[.pointer (some ⟨w.heap.size + 1, 0, none⟩)] #[]] 29))) (by omega))
  clear HR1 HG1 HB1 HM1
  go_upto_region 3 with fail
  generalize W1.alloc (.cells #[.func (Fn.func 26) #[.pointer (some ⟨w.heap.size + 1, 0, none⟩)] #[], .func (Fn.func 27) #[.pointer (some ⟨w.heap.size + 1, 0, none⟩)] #[], .func (Fn.func 28) #[.pointer (some ⟨w.heap.size + 1, 0, none⟩)] #[]] 29) = W2 at *
  generalize W1.heap.size = ga at *
  go_loopw [21] (fun z wr => ∃ i : Nat, z = .int .i64 i ∧ i ≤ 3 ∧ StepI s.data.toList (w.heap.size + 1) wr i ∧ Blk wr w.heap.size 23 #[.bool false, .string ⟨#[]⟩, .string ⟨#[]⟩] ∧ Blk wr ga 29 #[.func (Fn.func 26) #[.pointer (some ⟨w.heap.size + 1, 0, none⟩)] #[], .func (Fn.func 27) #[.pointer (some ⟨w.heap.size + 1, 0, none⟩)] #[], .func (Fn.func 28) #[.pointer (some ⟨w.heap.size + 1, 0, none⟩)] #[]] ∧ Below w.heap.size w wr ∧ MaxC wr) (fun z _ => 3 - (intOf z).toNat)
  case atStart => exact ⟨0, rfl, by omega, by show Hr _ _ (strOf s.data.toList) _ _ _; rw [HSl.out]; exact HG2.out, HR2.out, HA2.out, HB2.out, HM2.out⟩
  case round =>
    obtain ⟨i, rfl, hi, hst, hR, hA, hB, hM⟩ := hrel
    have HRr := Lib.hid hR
    have HAr := Lib.hid hA
    have HBr := Lib.hid hB
    have HMr := Lib.hid hM
    clear hR hA hB hM HA2 HR2 HG2 HB2 HM2
    match i, hi, hst with
    | 0, _, hst =>
      have hst1 : Hr wr (w.heap.size + 1) (strOf s.data.toList) false ⟨#[]⟩ ⟨#[]⟩ := hst
      have HC := Lib.hid (receiver_any (w.heap.size + 1) _ _ _ _ wr (by rw [strOf_size, ← HL.out]; exact hs) hst1 (Nat.succ_pos _) HMr.out)
      rw [strOf_list] at HC
      have a0 := HAr.out.cell 0
      clear hst hst1
      go_wp2_with fail
      refine HC.out.mono ?_
      rintro e w2 ⟨hrr, o2⟩
      have hR2 := HRr.out.only o2 (Nat.ne_of_lt (Nat.lt_succ_self _))
      have hB2 := HBr.out.trans (o2.below (B := w.heap.size) (Nat.le_succ _) HBr.out.size)
      have HA2 := Lib.hid (HAr.out.only o2 (by omega))
      have HM2 := Lib.hid (HMr.out.only (Nat.succ_pos _) o2)
      clear HRr HBr HAr HMr o2
      cases hrec : recvP s.data.toList with
      | none =>
        rw [hrec] at hrr
        have hrr2 : e = .returned (.bool false) := hrr
        subst hrr2
        have HV : Hid (readP s.data.toList = none) := by show _ = _; unfold readP; rw [hrec]
        clear hrr hrec
        have r0 := hR2.cell 0
        have r1 := hR2.cell 1
        have r2 := hR2.cell 2
        have f0 := hR2.frozen 0
        have f1 := hR2.frozen 1
        have f2 := hR2.frozen 2
        go_wp2_with fail
        have hF := ((hR2.set_ 0 (.bool false)).set_ 1 (.string ⟨#[]⟩)).set_ 2 (.string ⟨#[]⟩)
        have s0 : (World.setCell _ _ _).cell? _ = some (.bool false) := hF.cell 0
        have s1 : (World.setCell _ _ _).cell? _ = some (.string ⟨#[]⟩) := hF.cell 1
        have s2 : (World.setCell _ _ _).cell? _ = some (.string ⟨#[]⟩) := hF.cell 2
        exact bodyPost_ret (v := .tuple #[.agg #[.bool false, .string ⟨#[]⟩, .string ⟨#[]⟩], .int .i64 7]) (by simp [results, Try.f13, go_sem, s0, s1, s2]) rfl ⟨by rw [HV.out]; rfl, ((hB2.setCell (p := ⟨w.heap.size, 0, none⟩) (Nat.le_refl _) _).setCell (p := ⟨w.heap.size, 1, none⟩) (Nat.le_refl _) _).setCell (p := ⟨w.heap.size, 2, none⟩) (Nat.le_refl _) _⟩
      | some p =>
        obtain ⟨r, x⟩ := p
        rw [hrec] at hrr
        obtain ⟨rfl, h2⟩ := hrr
        have HST : Hid (StepI s.data.toList (w.heap.size + 1) w2 1) := ⟨r, x, hrec, h2⟩
        clear h2 hrec
        go_wp2_with fail
        go_roundw
        case rel => exact ⟨1, by go_num, by omega, HST.out, hR2, HA2.out, hB2, HM2.out⟩
        case measure => simp [intOf]
    | 1, _, hst =>
      obtain ⟨r, x, hrec, hst1⟩ := hst
      have hlen := recvP_len hrec
      have HC := Lib.hid (status_any (w.heap.size + 1) _ _ _ _ wr (by rw [strOf_size]; have := HL.out; omega) hst1)
      rw [strOf_list] at HC
      have a0 := HAr.out.cell 1
      clear hst1 hlen
      go_wp2_with fail
      refine HC.out.mono ?_
      rintro e w2 ⟨hrr, o2⟩
      have hR2 := HRr.out.only o2 (Nat.ne_of_lt (Nat.lt_succ_self _))
      have hB2 := HBr.out.trans (o2.below (B := w.heap.size) (Nat.le_succ _) HBr.out.size)
      have HA2 := Lib.hid (HAr.out.only o2 (by omega))
      have HM2 := Lib.hid (HMr.out.only (Nat.succ_pos _) o2)
      clear HRr HBr HAr HMr o2
      cases hsta : statP x with
      | none =>
        rw [hsta] at hrr
        have hrr2 : e = .returned (.bool false) := hrr
        subst hrr2
        have HV : Hid (readP s.data.toList = none) := by show _ = _; unfold readP; rw [hrec]; dsimp only; rw [hsta]
        clear hrr hrec hsta
        have r0 := hR2.cell 0
        have r1 := hR2.cell 1
        have r2 := hR2.cell 2
        have f0 := hR2.frozen 0
        have f1 := hR2.frozen 1
        have f2 := hR2.frozen 2
        go_wp2_with fail
        have hF := ((hR2.set_ 0 (.bool false)).set_ 1 (.string ⟨#[]⟩)).set_ 2 (.string ⟨#[]⟩)
        have s0 : (World.setCell _ _ _).cell? _ = some (.bool false) := hF.cell 0
        have s1 : (World.setCell _ _ _).cell? _ = some (.string ⟨#[]⟩) := hF.cell 1
        have s2 : (World.setCell _ _ _).cell? _ = some (.string ⟨#[]⟩) := hF.cell 2
        exact bodyPost_ret (v := .tuple #[.agg #[.bool false, .string ⟨#[]⟩, .string ⟨#[]⟩], .int .i64 7]) (by simp [results, Try.f13, go_sem, s0, s1, s2]) rfl ⟨by rw [HV.out]; rfl, ((hB2.setCell (p := ⟨w.heap.size, 0, none⟩) (Nat.le_refl _) _).setCell (p := ⟨w.heap.size, 1, none⟩) (Nat.le_refl _) _).setCell (p := ⟨w.heap.size, 2, none⟩) (Nat.le_refl _) _⟩
      | some p =>
        obtain ⟨f, y⟩ := p
        rw [hsta] at hrr
        obtain ⟨rfl, h2⟩ := hrr
        have HST : Hid (StepI s.data.toList (w.heap.size + 1) w2 2) := ⟨r, x, f, y, hrec, hsta, h2⟩
        clear h2 hrec hsta
        go_wp2_with fail
        go_roundw
        case rel => exact ⟨2, by go_num, by omega, HST.out, hR2, HA2.out, hB2, HM2.out⟩
        case measure => simp [intOf]
    | 2, _, hst =>
      obtain ⟨r, x, f, y, hrec, hsta, hst1⟩ := hst
      have hlen := recvP_len hrec
      have hlen2 := statP_len hsta
      have HC := Lib.hid (body_any (w.heap.size + 1) _ _ _ _ wr (by rw [strOf_size]; have := HL.out; omega) hst1)
      rw [strOf_list] at HC
      have a0 := HAr.out.cell 2
      clear hst1 hlen hlen2
      go_wp2_with fail
      refine HC.out.mono ?_
      rintro e w2 ⟨hrr, o2⟩
      have hR2 := HRr.out.only o2 (Nat.ne_of_lt (Nat.lt_succ_self _))
      have hB2 := HBr.out.trans (o2.below (B := w.heap.size) (Nat.le_succ _) HBr.out.size)
      have HA2 := Lib.hid (HAr.out.only o2 (by omega))
      have HM2 := Lib.hid (HMr.out.only (Nat.succ_pos _) o2)
      clear HRr HBr HAr HMr o2
      cases hbod : bodyP y with
      | none =>
        rw [hbod] at hrr
        have hrr2 : e = .returned (.bool false) := hrr
        subst hrr2
        have HV : Hid (readP s.data.toList = none) := by show _ = _; unfold readP; rw [hrec]; dsimp only; rw [hsta]; dsimp only; rw [hbod]
        clear hrr hrec hsta hbod
        have r0 := hR2.cell 0
        have r1 := hR2.cell 1
        have r2 := hR2.cell 2
        have f0 := hR2.frozen 0
        have f1 := hR2.frozen 1
        have f2 := hR2.frozen 2
        go_wp2_with fail
        have hF := ((hR2.set_ 0 (.bool false)).set_ 1 (.string ⟨#[]⟩)).set_ 2 (.string ⟨#[]⟩)
        have s0 : (World.setCell _ _ _).cell? _ = some (.bool false) := hF.cell 0
        have s1 : (World.setCell _ _ _).cell? _ = some (.string ⟨#[]⟩) := hF.cell 1
        have s2 : (World.setCell _ _ _).cell? _ = some (.string ⟨#[]⟩) := hF.cell 2
        exact bodyPost_ret (v := .tuple #[.agg #[.bool false, .string ⟨#[]⟩, .string ⟨#[]⟩], .int .i64 7]) (by simp [results, Try.f13, go_sem, s0, s1, s2]) rfl ⟨by rw [HV.out]; rfl, ((hB2.setCell (p := ⟨w.heap.size, 0, none⟩) (Nat.le_refl _) _).setCell (p := ⟨w.heap.size, 1, none⟩) (Nat.le_refl _) _).setCell (p := ⟨w.heap.size, 2, none⟩) (Nat.le_refl _) _⟩
      | some b =>
        rw [hbod] at hrr
        obtain ⟨rfl, s', h2⟩ := hrr
        have HST : Hid (StepI s.data.toList (w.heap.size + 1) w2 3) := ⟨r, x, f, y, b, s', hrec, hsta, hbod, h2⟩
        clear h2 hrec hsta hbod
        go_wp2_with fail
        go_roundw
        case rel => exact ⟨3, by go_num, by omega, HST.out, hR2, HA2.out, hB2, HM2.out⟩
        case measure => simp [intOf]
    | 3, _, hst =>
      obtain ⟨r, x, f, y, b, s', hrec, hsta, hbod, hst1⟩ := hst
      have hlen := recvP_len hrec
      have hlen2 := statP_len hsta
      have hlen3 := bodyP_len hbod
      have HV : Hid (readP s.data.toList = sureP s.data.toList f r b) := by show _ = _; unfold readP; rw [hrec]; dsimp only; rw [hsta]; dsimp only; rw [hbod]
      have HBj := Lib.hid (fun w => HBu.out f r b w (by have := HL.out; omega) (by have := HL.out; omega))
      clear hrec hsta hbod hlen hlen2 hlen3 HBu HAr HMr
      have HH := Lib.hid hst1
      have c1 := hst1.c1
      have c2 := hst1.c2
      have c3 := hst1.c3
      clear hst1
      have hor : (hookE r b ≠ 0) ∨ (hookE r b = 0 ∧ hookT f r b = strOf (hookL f r b)) := by
        by_cases h : hookE r b = 0
        · exact .inr ⟨h, hookT_ok h⟩
        · exact .inl h
      have hsure : sureP s.data.toList f r b = if hookE r b = 0 ∧ hookL f r b = s.data.toList then some (f, r, b) else none := rfl
      rw [hsure] at HV
      clear hsure
      have hSL := HS.out (hookL f r b)
      generalize hookT f r b = HT at *
      generalize hookE r b = E at *
      have HFin : Hid (∀ x : ByteArray, x = x) := fun x => rfl
      rcases hor with hE | ⟨rfl, rfl⟩
      · have HV2 : Hid (readP s.data.toList = none) := by show _ = _; rw [HV.out, if_neg (fun h => hE h.1)]
        have qE : (E != 0) = true := by simpa [bne_iff_ne] using hE
        clear hE HV hSL
        generalize strOf r = rb at *
        generalize strOf b = bb at *
        go_wp2_with fail
        refine (HBj.out _).mono ?_
        rintro e w5 ⟨rfl, b5⟩
        have hR5 := HRr.out.below b5 HRr.out.lt
        have hB5 := HBr.out.trans (b5.mono HBr.out.size)
        have HH5 := HH.out.bel b5
        clear c1 c2 c3 b5 HRr HBr HH
        have r0 := hR5.cell 0
        have r1 := hR5.cell 1
        have r2 := hR5.cell 2
        have f0 := hR5.frozen 0
        have f1 := hR5.frozen 1
        have f2 := hR5.frozen 2
        go_wp2_with fail
        have hF := ((hR5.set_ 0 (.bool false)).set_ 1 (.string ⟨#[]⟩)).set_ 2 (.string ⟨#[]⟩)
        have s0 : (World.setCell _ _ _).cell? _ = some (.bool false) := hF.cell 0
        have s1 : (World.setCell _ _ _).cell? _ = some (.string ⟨#[]⟩) := hF.cell 1
        have s2 : (World.setCell _ _ _).cell? _ = some (.string ⟨#[]⟩) := hF.cell 2
        exact bodyPost_ret (v := .tuple #[.agg #[.bool false, .string ⟨#[]⟩, .string ⟨#[]⟩], .int .i64 7]) (by simp [results, Try.f13, go_sem, s0, s1, s2]) rfl ⟨by rw [HV2.out]; rfl, ((hB5.setCell (p := ⟨w.heap.size, 0, none⟩) (Nat.le_refl _) _).setCell (p := ⟨w.heap.size, 1, none⟩) (Nat.le_refl _) _).setCell (p := ⟨w.heap.size, 2, none⟩) (Nat.le_refl _) _⟩
      · by_cases hq : hookL f r b = s.data.toList
        · have HV2 : Hid (readP s.data.toList = some (f, r, b)) := by show _ = _; rw [HV.out, if_pos ⟨rfl, hq⟩]
          rw [decide_eq_true hq] at hSL
          clear hq HV
          have HVV : Hid (∀ v, v = Value.tuple #[.agg #[.bool f, .string (strOf r), .string (strOf b)], .int .i64 0] → Ending.returned v = .returned (readV37 (readP s.data.toList))) := fun v h => by rw [HV2.out, h]; rfl
          generalize strOf (hookL f r b) = HT at *
          generalize strOf r = rb at *
          generalize strOf b = bb at *
          go_wp2_with fail
          refine (HBj.out _).mono ?_
          rintro e w5 ⟨rfl, b5⟩
          have hR5 := HRr.out.below b5 HRr.out.lt
          have hB5 := HBr.out.trans (b5.mono HBr.out.size)
          have HH5 := HH.out.bel b5
          clear c1 c2 c3 b5 HRr HBr HH
          have r0 := hR5.cell 0
          have r1 := hR5.cell 1
          have r2 := hR5.cell 2
          have f0 := hR5.frozen 0
          have f1 := hR5.frozen 1
          have f2 := hR5.frozen 2
          have c1 := HH5.c1
          have c2 := HH5.c2
          have c3 := HH5.c3
          go_wp2_with fail
          have hF := ((hR5.set_ 0 (.bool f)).set_ 1 (.string rb)).set_ 2 (.string bb)
          have s0 : (World.setCell _ _ _).cell? _ = some (.bool f) := hF.cell 0
          have s1 : (World.setCell _ _ _).cell? _ = some (.string rb) := hF.cell 1
          have s2 : (World.setCell _ _ _).cell? _ = some (.string bb) := hF.cell 2
          exact bodyPost_ret (v := .tuple #[.agg #[.bool f, .string rb, .string bb], .int .i64 0]) (by simp [results, Try.f13, go_sem, s0, s1, s2]) rfl ⟨HVV.out _ rfl, ((hB5.setCell (p := ⟨w.heap.size, 0, none⟩) (Nat.le_refl _) _).setCell (p := ⟨w.heap.size, 1, none⟩) (Nat.le_refl _) _).setCell (p := ⟨w.heap.size, 2, none⟩) (Nat.le_refl _) _⟩
        · have HV2 : Hid (readP s.data.toList = none) := by show _ = _; rw [HV.out, if_neg (fun h => hq h.2)]
          rw [decide_eq_false hq] at hSL
          clear hq HV
          generalize strOf (hookL f r b) = HT at *
          generalize strOf r = rb at *
          generalize strOf b = bb at *
          go_wp2_with fail
          refine (HBj.out _).mono ?_
          rintro e w5 ⟨rfl, b5⟩
          have hR5 := HRr.out.below b5 HRr.out.lt
          have hB5 := HBr.out.trans (b5.mono HBr.out.size)
          have HH5 := HH.out.bel b5
          clear c1 c2 c3 b5 HRr HBr HH
          have r0 := hR5.cell 0
          have r1 := hR5.cell 1
          have r2 := hR5.cell 2
          have f0 := hR5.frozen 0
          have f1 := hR5.frozen 1
          have f2 := hR5.frozen 2
          go_wp2_with fail
          have hF := ((hR5.set_ 0 (.bool false)).set_ 1 (.string ⟨#[]⟩)).set_ 2 (.string ⟨#[]⟩)
          have s0 : (World.setCell _ _ _).cell? _ = some (.bool false) := hF.cell 0
          have s1 : (World.setCell _ _ _).cell? _ = some (.string ⟨#[]⟩) := hF.cell 1
          have s2 : (World.setCell _ _ _).cell? _ = some (.string ⟨#[]⟩) := hF.cell 2
          exact bodyPost_ret (v := .tuple #[.agg #[.bool false, .string ⟨#[]⟩, .string ⟨#[]⟩], .int .i64 7]) (by simp [results, Try.f13, go_sem, s0, s1, s2]) rfl ⟨by rw [HV2.out]; rfl, ((hB5.setCell (p := ⟨w.heap.size, 0, none⟩) (Nat.le_refl _) _).setCell (p := ⟨w.heap.size, 1, none⟩) (Nat.le_refl _) _).setCell (p := ⟨w.heap.size, 2, none⟩) (Nat.le_refl _) _⟩
    | i + 4, hi, _ => omega
end Go.Proofs.Ytdfnlcigbmiafaa

/- Walks: the document's hook reader, where a text is a map of three members (chapter 37). -/
namespace Go.Proofs.Ytdfnlcigbmiafaa
open Go.RowKit
set_option linter.unusedVariables false
set_option linter.unusedSimpArgs false
set_option linter.constructorNameAsVariable false
theorem below_drewU {B : Nat} {w w' : World} (h : Below B w w') : Below B w w'.drew := ⟨h.os, h.tape, h.output, h.size, h.block⟩
theorem TokAt.four {w : World} {B : Nat} {ao : Option Addr} {ts : List Tok} {j : Nat} {t : Tok} (h : TokAt w B ao ts) (ht : ts[j]? = some t) :
    ∃ g, ao = some ⟨g, 0, none⟩ ∧ w.cell? ⟨g, j * 4, none⟩ = some (.int .u8 t.kind) ∧ w.cell? ⟨g, j * 4 + 1, none⟩ = some (.string (strOf t.text)) ∧ w.cell? ⟨g, j * 4 + 3, none⟩ = some (.int .i64 t.to) := by
  rcases h with h | ⟨g, hg, hl, hc⟩
  · subst h; simp at ht
  · exact ⟨g, hg, hc _ _ (tokCs_at ts j 0 t ht (by omega)), hc _ _ (tokCs_at ts j 1 t ht (by omega)), hc _ _ (tokCs_at ts j 3 t ht (by omega))⟩
/-- Where the body begins, as far as the tokens were looked at. -/
def AtI (ts : List Tok) (i : Nat) (a : Int) : Prop := (a = -1 ∧ ∀ j, j < i → bAt ts j = false) ∨ ∃ j, j < i ∧ bAt ts j = true ∧ (∀ k, k < j → bAt ts k = false) ∧ a = (toAt ts (j + 1) : Int)
theorem AtI.skip {ts : List Tok} {i : Nat} {a : Int} (h : AtI ts i a) (hb : bAt ts i = false) : AtI ts (i + 1) a := by
  rcases h with ⟨h1, h2⟩ | ⟨j, h1, h2⟩
  · refine .inl ⟨h1, fun j hj => ?_⟩
    rcases Nat.lt_or_ge j i with h3 | h3
    · exact h2 j h3
    · obtain rfl : j = i := by omega
      exact hb
  · exact .inr ⟨j, by omega, h2⟩
theorem AtI.new {ts : List Tok} {i : Nat} (h : AtI ts i (-1)) (hb : bAt ts i = true) : AtI ts (i + 1) (toAt ts (i + 1) : Int) := by
  rcases h with ⟨h1, h2⟩ | ⟨j, h1, h2, h3, h4⟩
  · exact .inr ⟨i, by omega, hb, h2, rfl⟩
  · omega
theorem AtI.keep {ts : List Tok} {i j : Nat} {a : Int} (h1 : j < i) (h2 : bAt ts j = true ∧ (∀ k, k < j → bAt ts k = false) ∧ a = (toAt ts (j + 1) : Int)) : AtI ts (i + 1) a := .inr ⟨j, by omega, h2⟩
theorem AtI.end_ {ts : List Tok} {a : Int} (h : AtI ts ts.length a) : (a = -1 ∧ firstB ts = none) ∨ ∃ j, firstB ts = some j ∧ bAt ts j = true ∧ a = (toAt ts (j + 1) : Int) := by
  rcases h with ⟨h1, h2⟩ | ⟨j, h1, h2, h3, h4⟩
  · refine .inl ⟨h1, ?_⟩
    unfold firstB
    rw [List.find?_eq_none]
    intro j hj
    rw [h2 j (List.mem_range.1 hj)]; decide
  · exact .inr ⟨j, first_some h1 h2 h3, h2, h4⟩
set_option maxRecDepth 100000 in
set_option maxHeartbeats 8000000 in
theorem hread_three (s : ByteArray) (t : List UInt8) (ks : List (List UInt8)) (n1 n2 n3 : Node) (w : World) (hs : s.size ≤ 2000) (hp : parseJ s.data.toList = .ok (.mk 123 t ks [n1, n2, n3])) :
    Calls Try.prog 14 #[.string s] w fun e w' => e = .returned (readV37 (readR s.data.toList)) ∧ Below w.heap.size w w' := by
  obtain ⟨ts, htk, htl, hx1, hx2, htsl, hto, hba⟩ := three_facts hp
  have hl := sz_len s
  have HV : Hid (readR s.data.toList = match firstB ts with | none => none | some j => sureP s.data.toList (decide (n2.text = wordL true)) n1.text (bodyR s.data.toList j)) := by
    show _ = _; unfold readR; rw [hp]; dsimp only; rw [if_pos ⟨rfl, rfl⟩, htl]; rfl
  have HPa := Lib.hid (fun w => rparse_any s w (by omega))
  rw [hp] at HPa
  have HP : Hid (∀ w, Calls Try.prog 12 #[.string s] w fun e w' => (∃ (x : ByteArray) (o1 : Option Addr) (m1 c1 g c2 : Nat), e = .returned (.tuple #[.agg #[.int .u8 123, .string x, .slice o1 m1 c1, .slice (some ⟨g, 0, none⟩) 3 c2], .int .i64 0]) ∧ g < w'.heap.size ∧ w'.cell? ⟨g, 1, none⟩ = some (.string (strOf n1.text)) ∧ w'.cell? ⟨g, 5, none⟩ = some (.string (strOf n2.text))) ∧ Below w.heap.size w w') := by
    intro w
    refine (HPa.out w).mono fun e w' h => ⟨?_, h.2⟩
    obtain ⟨a, b, c, d, h1, h2⟩ := h.1
    obtain ⟨x, o1, m1, c1, g, c2, rfl, rfl, rfl, rfl, h3⟩ := node_three h2
    exact ⟨x, o1, m1, c1, g, c2, h1, h3⟩
  have HTa := Lib.hid (fun w => rtokens_any s w (by omega))
  rw [htk] at HTa
  have HT : Hid (∀ w, Calls Try.prog 23 #[.string s] w fun e w' => (∃ (ao : Option Addr) (cap : Nat), e = .returned (.tuple #[.slice ao ts.length cap, .int .i64 0]) ∧ TokAt w' w'.heap.size ao ts) ∧ Below w.heap.size w w') := by
    intro w
    refine (HTa.out w).mono fun e w' h => ⟨?_, h.2⟩
    obtain ⟨v, h1, h2⟩ := h.1
    obtain ⟨ao, cap, rfl, h3⟩ := tok_row h2
    exact ⟨ao, cap, h1, h3⟩
  obtain ⟨bo, hbo⟩ : ∃ bo, decide (n2.text = wordL true) = bo := ⟨_, rfl⟩
  have hyb : ((strOf n2.text).toList == [102, 105, 114, 105, 110, 103]) = bo := by
    rw [← hbo, ByteArray.toList_eq, strOf_list]
    show _ = decide (n2.text = [102, 105, 114, 105, 110, 103])
    by_cases h : n2.text = [102, 105, 114, 105, 110, 103] <;> simp [h]
  rw [hbo] at HV
  have HBd : Hid (∀ j, bAt ts j = true → ((toAt ts (j + 1) : Int) ≤ ((s.size - 1 : Nat) : Int)) ∧ 1 ≤ s.size ∧ s.extract (toAt ts (j + 1)) (s.size - 1) = strOf (bodyR s.data.toList j)) := by
    intro j hj
    obtain ⟨h1, h2⟩ := hba j hj
    refine ⟨by omega, by omega, ?_⟩
    apply ba_ext
    rw [strOf_list]
    unfold bodyR
    rw [htl]
    simp [List.extract_eq_take_drop]
    rw [List.drop_take]
  have HBu : Hid (∀ (b : List UInt8) (w : World), b.length ≤ 2000 → Calls Try.prog 9 #[.agg #[.bool bo, .string (strOf n1.text), .string (strOf b)]] w fun e w' => e = .returned (.tuple #[.string (hookT bo n1.text b), .int .i64 (hookE n1.text b)]) ∧ Below w.heap.size w w') := by
    intro b w hb
    have := hbuild_any bo (strOf n1.text) (strOf b) w (by rw [strOf_size]; omega) (by rw [strOf_size]; omega)
    rw [strOf_list, strOf_list] at this
    exact this
  have HBl : Hid (∀ j, (bodyR s.data.toList j).length ≤ 2000) := by
    intro j; unfold bodyR; rw [List.length_drop, List.length_take]; omega
  have HTo := Lib.hid hto
  have htl2 : ts.length ≤ 2000 := by omega
  have HS : Hid (∀ l : List UInt8, ((strOf l).toList == s.toList) = decide (l = s.data.toList)) := fun l => by rw [ByteArray.toList_eq, ByteArray.toList_eq, strOf_list]; by_cases h : l = s.data.toList <;> simp [h]
  have HX0 : Hid (∀ r, r = strOf n1.text → r = strOf n1.text) := fun r h => h
  clear HPa HTa hp htk htl hx1 hx2 htsl hto hba hl hbo
  generalize hx0 : strOf n1.text = x0 at *
  generalize hx1 : strOf n2.text = x1 at *
  have HX := Lib.hid hx0
  clear hx0 hx1 HX0
  have HR1 := Lib.hid (Blk.new w 23 #[.bool false, .string ⟨#[]⟩, .string ⟨#[]⟩])
  have HB1 := Lib.hid ((Below.refl w.heap.size w).alloc (Nat.le_refl _) (.cells #[.bool false, .string ⟨#[]⟩, .string ⟨#[]⟩] 23))
  go_enter Try.func14, Try.ntmps14
  go_upto_region 1 with fail
  generalize hW : w.alloc (.cells #[.bool false, .string ⟨#[]⟩, .string ⟨#[]⟩] 23) = W1 at *
  clear hW
  go_wp2_with fail
  refine (HP.out _).mono ?_
  rintro e w2 ⟨⟨x, o1, m1, c1, g, c2, rfl, hgl, y1, y5⟩, b2⟩
  have HR2 := Lib.hid ((HR1.out.below b2 HR1.out.lt).alloc (.cells #[.int .u8 123, .string x, .slice o1 m1 c1, .slice (some ⟨g, 0, none⟩) 3 c2] 34))
  have HN2 := Lib.hid (Blk.new w2 34 #[.int .u8 123, .string x, .slice o1 m1 c1, .slice (some ⟨g, 0, none⟩) 3 c2])
  have HB2 := Lib.hid ((HB1.out.trans (b2.mono HB1.out.size)).alloc (HB1.out.trans (b2.mono HB1.out.size)).size (.cells #[.int .u8 123, .string x, .slice o1 m1 c1, .slice (some ⟨g, 0, none⟩) 3 c2] 34))
  have z1 : (w2.alloc (.cells #[.int .u8 123, .string x, .slice o1 m1 c1, .slice (some ⟨g, 0, none⟩) 3 c2] 34)).cell? ⟨g, 1, none⟩ = some (.string x0) := (((Below.refl w2.heap.size w2).alloc (Nat.le_refl _) _).cell (p := ⟨g, 1, none⟩) hgl).trans y1
  have z5 : (w2.alloc (.cells #[.int .u8 123, .string x, .slice o1 m1 c1, .slice (some ⟨g, 0, none⟩) 3 c2] 34)).cell? ⟨g, 5, none⟩ = some (.string x1) := (((Below.refl w2.heap.size w2).alloc (Nat.le_refl _) _).cell (p := ⟨g, 5, none⟩) hgl).trans y5
  clear b2 HR1 HB1 y1 y5 hgl
  go_upto_region 2 with fail
  generalize hBN : w2.heap.size = BN at *
  generalize hW : w2.alloc (.cells #[.int .u8 123, .string x, .slice o1 m1 c1, .slice (some ⟨g, 0, none⟩) 3 c2] 34) = W3 at *
  clear hW hBN
  go_wp2_with fail
  refine (HT.out _).mono ?_
  rintro e w4 ⟨⟨ao, cap, rfl, hT4⟩, b4⟩
  have HR4 := Lib.hid (HR2.out.below b4 HR2.out.lt)
  have HN4 := Lib.hid (HN2.out.below b4 HN2.out.lt)
  have HB4 := Lib.hid (HB2.out.trans (b4.mono HB2.out.size))
  have HZ1 := Lib.hid ((b4.cell (p := ⟨g, 1, none⟩) (cell_lt37 z1)).trans z1)
  have HZ5 := Lib.hid ((b4.cell (p := ⟨g, 5, none⟩) (cell_lt37 z5)).trans z5)
  have HT4 := Lib.hid hT4
  have n0 := HN4.out.cell 0
  have n3 := HN4.out.cell 3
  clear b4 HR2 HB2 HT HP HN2 z1 z5 hT4
  go_wp2_with fail
  go_loopw [8, 9] (fun a z wr => ∃ (i : Nat) (v : Int), a = .int .i64 v ∧ z = .int .i64 i ∧ i ≤ ts.length ∧ AtI ts i v ∧ wr = w4) (fun _ z _ => ts.length - (intOf z).toNat)
  case atStart => exact ⟨0, -1, rfl, rfl, Nat.zero_le _, .inl ⟨rfl, fun j hj => by omega⟩, rfl⟩
  case round =>
    obtain ⟨i, v, rfl, rfl, hil, hat, rfl⟩ := hrel
    have HAt := Lib.hid hat
    clear hat n0 n3
    by_cases hlt : i < ts.length
    · obtain ⟨tk, htk⟩ : ∃ tk, ts[i]? = some tk := ⟨_, List.getElem?_eq_getElem hlt⟩
      obtain ⟨gt, rfl, p0, p1, _⟩ := HT4.out.four htk
      have HBA : Hid (bAt ts i = (decide (tk.kind = 34) && decide (tk.text = tBody) && isK ts (i + 1) 58)) := by
        show _ = _; unfold bAt isK txt; rw [htk]
      have j1 : IntKind.i64.wrap ((i : Int) + 1) = ((i + 1 : Nat) : Int) := by rw [IntWalk.i64_in _ (by omega)]; omega
      have HRND : Hid (∀ a : Int, AtI ts (i + 1) a → AtI ts (i + 1) a) := fun a h => h
      by_cases q1 : tk.kind = 34
      · have k1 : ((tk.kind : Int) == 34) = true := by simp [q1]
        by_cases q2 : tk.text = tBody
        · have k2 : ((strOf tk.text).toList == [98, 111, 100, 121]) = true := by rw [ByteArray.toList_eq, strOf_list, q2]; rfl
          by_cases q3 : i + 1 < ts.length
          · obtain ⟨tn, htn⟩ : ∃ tn, ts[i + 1]? = some tn := ⟨_, List.getElem?_eq_getElem q3⟩
            obtain ⟨gt2, hgt, r0, _, r3⟩ := HT4.out.four htn
            cases hgt
            have k3 : ((i + 1 : Nat) : Int) < (ts.length : Int) := by omega
            have hTo : toAt ts (i + 1) = tn.to := by unfold toAt; rw [htn]
            by_cases q4 : tn.kind = 58
            · have hb : bAt ts i = true := by rw [HBA.out, q1, q2]; unfold isK; rw [htn]; simp [q4]
              have k4 : ((tn.kind : Int) == 58) = true := by simp [q4]
              have HBT := Lib.hid hb
              generalize tn.kind = kn at *
              generalize htt : tn.to = tt at *
              generalize tk.kind = kk at *
              generalize strOf tk.text = xx at *
              clear q1 q2 q4 htk htn hb htt
              rcases HAt.out with ⟨rfl, _⟩ | ⟨j, h1, h2, h3, rfl⟩
              · go_wp2_with fail
                go_roundw
                case rel => exact ⟨i + 1, _, rfl, by go_num, hlt, by rw [← hTo]; exact HAt.out.new HBT.out, by trivial⟩
                case measure => simp [intOf]; omega
              · have HKp := Lib.hid (AtI.keep h1 ⟨h2, h3, rfl⟩)
                have k5 : ¬ ((toAt ts (j + 1) : Int) < 0) := by omega
                clear h1 h2 h3
                generalize toAt ts (j + 1) = aa at *
                go_wp2_with fail
                go_roundw
                case rel => exact ⟨i + 1, _, rfl, by go_num, hlt, HKp.out, by trivial⟩
                case measure => simp [intOf]; omega
            · have hb : bAt ts i = false := by rw [HBA.out]; unfold isK; rw [htn]; simp [q4]
              have k4 : ((tn.kind : Int) == 58) = false := by simp; omega
              have HSk := Lib.hid (HAt.out.skip hb)
              generalize tn.kind = kn at *
              generalize tk.kind = kk at *
              generalize strOf tk.text = xx at *
              clear q1 q2 q4 htk htn hb
              go_wp2_with fail
              go_roundw
              case rel => exact ⟨i + 1, _, rfl, by go_num, hlt, HSk.out, by trivial⟩
              case measure => simp [intOf]; omega
          · have hb : bAt ts i = false := by rw [HBA.out]; unfold isK; rw [List.getElem?_eq_none (by omega)]; simp
            have k3 : ¬ (((i + 1 : Nat) : Int) < (ts.length : Int)) := by omega
            have HSk := Lib.hid (HAt.out.skip hb)
            generalize tk.kind = kk at *
            generalize strOf tk.text = xx at *
            clear q1 q2 htk hb
            go_wp2_with fail
            go_roundw
            case rel => exact ⟨i + 1, _, rfl, by go_num, hlt, HSk.out, by trivial⟩
            case measure => simp [intOf]; omega
        · have hb : bAt ts i = false := by rw [HBA.out]; simp [q2]
          have k2 : ((strOf tk.text).toList == [98, 111, 100, 121]) = false := by
            rw [ByteArray.toList_eq, strOf_list, beq_eq_false_iff_ne]; exact q2
          have HSk := Lib.hid (HAt.out.skip hb)
          generalize tk.kind = kk at *
          generalize strOf tk.text = xx at *
          clear q1 q2 htk hb
          go_wp2_with fail
          go_roundw
          case rel => exact ⟨i + 1, _, rfl, by go_num, hlt, HSk.out, by trivial⟩
          case measure => simp [intOf]; omega
      · have hb : bAt ts i = false := by rw [HBA.out]; simp [q1]
        have k1 : ((tk.kind : Int) == 34) = false := by simp; omega
        have HSk := Lib.hid (HAt.out.skip hb)
        generalize tk.kind = kk at *
        generalize strOf tk.text = xx at *
        clear q1 htk hb
        go_wp2_with fail
        go_roundw
        case rel => exact ⟨i + 1, _, rfl, by go_num, hlt, HSk.out, by trivial⟩
        case measure => simp [intOf]; omega
    · obtain rfl : i = ts.length := by omega
      rcases HAt.out.end_ with ⟨rfl, hf⟩ | ⟨j, hf, hb, rfl⟩
      · have HV2 : Hid (readR s.data.toList = none) := by show _ = _; rw [HV.out, hf]
        have hR := HR4.out
        have hB := HB4.out
        clear hf HV
        have r0 := hR.cell 0
        have r1 := hR.cell 1
        have r2 := hR.cell 2
        have f0 := hR.frozen 0
        have f1 := hR.frozen 1
        have f2 := hR.frozen 2
        go_wp2_with fail
        have hF := ((hR.set_ 0 (.bool false)).set_ 1 (.string ⟨#[]⟩)).set_ 2 (.string ⟨#[]⟩)
        have s0 : (World.setCell _ _ _).cell? _ = some (.bool false) := hF.cell 0
        have s1 : (World.setCell _ _ _).cell? _ = some (.string ⟨#[]⟩) := hF.cell 1
        have s2 : (World.setCell _ _ _).cell? _ = some (.string ⟨#[]⟩) := hF.cell 2
        exact bodyPost_ret (v := .tuple #[.agg #[.bool false, .string ⟨#[]⟩, .string ⟨#[]⟩], .int .i64 7]) (by simp [results, Try.f14, go_sem, s0, s1, s2]) rfl ⟨by rw [HV2.out]; rfl, ((hB.setCell (p := ⟨w.heap.size, 0, none⟩) (Nat.le_refl _) _).setCell (p := ⟨w.heap.size, 1, none⟩) (Nat.le_refl _) _).setCell (p := ⟨w.heap.size, 2, none⟩) (Nat.le_refl _) _⟩
      · have HV2 : Hid (readR s.data.toList = sureP s.data.toList bo n1.text (bodyR s.data.toList j)) := by show _ = _; rw [HV.out, hf]
        obtain ⟨d1, d0, e1⟩ := HBd.out j hb
        have HBj := Lib.hid (fun w => HBu.out (bodyR s.data.toList j) w (HBl.out j))
        generalize bodyR s.data.toList j = bl at *
        generalize toAt ts (j + 1) = A at *
        have d2 : (0 : Int) ≤ (A : Int) := by omega
        have d3 : ((s.size - 1 : Nat) : Int) ≤ (s.size : Int) := by omega
        have d4 : IntKind.i64.wrap ((s.size : Int) - 1) = ((s.size - 1 : Nat) : Int) := by rw [IntWalk.i64_in _ (by omega)]; omega
        have d5 : ¬ ((A : Int) < 0) := by omega
        clear hf hb HV HBd HBu HBl HAt
        generalize hbb : strOf bl = bb at *
        have HBB := Lib.hid hbb
        clear hbb
        have KC : Hid (∀ w', Below wr.heap.size wr w' → w'.cell? ⟨BN, 3, none⟩ = some (.slice (some ⟨g, 0, none⟩) 3 c2) ∧ w'.cell? ⟨g, 1, none⟩ = some (.string x0) ∧ w'.cell? ⟨g, 5, none⟩ = some (.string x1)) := by
          intro w' h
          exact ⟨((h.cell (p := ⟨BN, 3, none⟩) HN4.out.lt).trans (HN4.out.cell 3)), (h.cell (p := ⟨g, 1, none⟩) (cell_lt37 HZ1.out)).trans HZ1.out, (h.cell (p := ⟨g, 5, none⟩) (cell_lt37 HZ5.out)).trans HZ5.out⟩
        go_upto_region 13 with fail
        go_region_held3 (fun w' => w'.cell? ⟨BN, 3, none⟩ = some (.slice (some ⟨g, 0, none⟩) 3 c2) ∧ w'.cell? ⟨g, 1, none⟩ = some (.string x0) ∧ w'.cell? ⟨g, 5, none⟩ = some (.string x1)) (first | exact KC.out _ (Below.refl _ _) | exact KC.out _ (below_drewU (Below.refl _ _)) | exact KC.out _ ((below_drewU (Below.refl _ _)).alloc (Nat.le_refl _) _)) (fail)
        have HP6 := Lib.hid ((Blk.new wr 23 #[.bool bo, .string x0, .string bb]).drew)
        have HR6 := Lib.hid ((HR4.out.alloc (.cells #[.bool bo, .string x0, .string bb] 23)).drew)
        have HB6 := Lib.hid ((HB4.out.alloc HB4.out.size (.cells #[.bool bo, .string x0, .string bb] 23)).drew)
        clear KC HR4 HN4 HB4 HZ1 HZ5 HT4
        generalize hW6 : (wr.alloc (.cells #[.bool bo, .string x0, .string bb] 23)).drew = W6 at *
        generalize wr.heap.size = BP at *
        clear hW6
        have hor : (hookE n1.text bl ≠ 0) ∨ (hookE n1.text bl = 0 ∧ hookT bo n1.text bl = strOf (hookL bo n1.text bl)) := by
          by_cases h : hookE n1.text bl = 0
          · exact .inr ⟨h, hookT_ok h⟩
          · exact .inl h
        have hsure : sureP s.data.toList bo n1.text bl = if hookE n1.text bl = 0 ∧ hookL bo n1.text bl = s.data.toList then some (bo, n1.text, bl) else none := rfl
        rw [hsure] at HV2
        clear hsure
        have hSL := HS.out (hookL bo n1.text bl)
        generalize hookT bo n1.text bl = HT at *
        generalize hookE n1.text bl = E at *
        have p0 := HP6.out.cell 0
        have p1 := HP6.out.cell 1
        have p2 := HP6.out.cell 2
        rcases hor with hE | ⟨rfl, rfl⟩
        · have HV3 : Hid (readR s.data.toList = none) := by show _ = _; rw [HV2.out, if_neg (fun h => hE h.1)]
          have qE : (E != 0) = true := by simpa [bne_iff_ne] using hE
          clear hE HV2 hSL
          go_wp2_with fail
          refine (HBj.out _).mono ?_
          rintro e w5 ⟨rfl, b5⟩
          have hR5 := HR6.out.below b5 HR6.out.lt
          have hB5 := HB6.out.trans (b5.mono HB6.out.size)
          have hP5 := HP6.out.below b5 HP6.out.lt
          clear p0 p1 p2 b5 HR6 HB6 HP6
          have r0 := hR5.cell 0
          have r1 := hR5.cell 1
          have r2 := hR5.cell 2
          have f0 := hR5.frozen 0
          have f1 := hR5.frozen 1
          have f2 := hR5.frozen 2
          go_wp2_with fail
          have hF := ((hR5.set_ 0 (.bool false)).set_ 1 (.string ⟨#[]⟩)).set_ 2 (.string ⟨#[]⟩)
          have s0 : (World.setCell _ _ _).cell? _ = some (.bool false) := hF.cell 0
          have s1 : (World.setCell _ _ _).cell? _ = some (.string ⟨#[]⟩) := hF.cell 1
          have s2 : (World.setCell _ _ _).cell? _ = some (.string ⟨#[]⟩) := hF.cell 2
          exact bodyPost_ret (v := .tuple #[.agg #[.bool false, .string ⟨#[]⟩, .string ⟨#[]⟩], .int .i64 7]) (by simp [results, Try.f14, go_sem, s0, s1, s2]) rfl ⟨by rw [HV3.out]; rfl, ((hB5.setCell (p := ⟨w.heap.size, 0, none⟩) (Nat.le_refl _) _).setCell (p := ⟨w.heap.size, 1, none⟩) (Nat.le_refl _) _).setCell (p := ⟨w.heap.size, 2, none⟩) (Nat.le_refl _) _⟩
        · by_cases hq : hookL bo n1.text bl = s.data.toList
          · have HV3 : Hid (readR s.data.toList = some (bo, n1.text, bl)) := by show _ = _; rw [HV2.out, if_pos ⟨rfl, hq⟩]
            rw [decide_eq_true hq] at hSL
            have HVV : Hid (∀ v, v = Value.tuple #[.agg #[.bool bo, .string x0, .string bb], .int .i64 0] → Ending.returned v = .returned (readV37 (readR s.data.toList))) := fun v h => by
              rw [HV3.out, h]
              show _ = Ending.returned (.tuple #[.agg #[.bool bo, .string (strOf n1.text), .string (strOf bl)], .int .i64 0])
              rw [HX.out, HBB.out]
            clear hq HV2
            generalize strOf (hookL bo n1.text bl) = HT at *
            go_wp2_with fail
            refine (HBj.out _).mono ?_
            rintro e w5 ⟨rfl, b5⟩
            have hR5 := HR6.out.below b5 HR6.out.lt
            have hB5 := HB6.out.trans (b5.mono HB6.out.size)
            have hP5 := HP6.out.below b5 HP6.out.lt
            clear p0 p1 p2 b5 HR6 HB6 HP6
            have r0 := hR5.cell 0
            have r1 := hR5.cell 1
            have r2 := hR5.cell 2
            have f0 := hR5.frozen 0
            have f1 := hR5.frozen 1
            have f2 := hR5.frozen 2
            have p0 := hP5.cell 0
            have p1 := hP5.cell 1
            have p2 := hP5.cell 2
            go_wp2_with fail
            have hF := ((hR5.set_ 0 (.bool bo)).set_ 1 (.string x0)).set_ 2 (.string bb)
            have s0 : (World.setCell _ _ _).cell? _ = some (.bool bo) := hF.cell 0
            have s1 : (World.setCell _ _ _).cell? _ = some (.string x0) := hF.cell 1
            have s2 : (World.setCell _ _ _).cell? _ = some (.string bb) := hF.cell 2
            exact bodyPost_ret (v := .tuple #[.agg #[.bool bo, .string x0, .string bb], .int .i64 0]) (by simp [results, Try.f14, go_sem, s0, s1, s2]) rfl ⟨HVV.out _ rfl, ((hB5.setCell (p := ⟨w.heap.size, 0, none⟩) (Nat.le_refl _) _).setCell (p := ⟨w.heap.size, 1, none⟩) (Nat.le_refl _) _).setCell (p := ⟨w.heap.size, 2, none⟩) (Nat.le_refl _) _⟩
          · have HV3 : Hid (readR s.data.toList = none) := by show _ = _; rw [HV2.out, if_neg (fun h => hq h.2)]
            rw [decide_eq_false hq] at hSL
            clear hq HV2
            generalize strOf (hookL bo n1.text bl) = HT at *
            go_wp2_with fail
            refine (HBj.out _).mono ?_
            rintro e w5 ⟨rfl, b5⟩
            have hR5 := HR6.out.below b5 HR6.out.lt
            have hB5 := HB6.out.trans (b5.mono HB6.out.size)
            have hP5 := HP6.out.below b5 HP6.out.lt
            clear p0 p1 p2 b5 HR6 HB6 HP6
            have r0 := hR5.cell 0
            have r1 := hR5.cell 1
            have r2 := hR5.cell 2
            have f0 := hR5.frozen 0
            have f1 := hR5.frozen 1
            have f2 := hR5.frozen 2
            go_wp2_with fail
            have hF := ((hR5.set_ 0 (.bool false)).set_ 1 (.string ⟨#[]⟩)).set_ 2 (.string ⟨#[]⟩)
            have s0 : (World.setCell _ _ _).cell? _ = some (.bool false) := hF.cell 0
            have s1 : (World.setCell _ _ _).cell? _ = some (.string ⟨#[]⟩) := hF.cell 1
            have s2 : (World.setCell _ _ _).cell? _ = some (.string ⟨#[]⟩) := hF.cell 2
            exact bodyPost_ret (v := .tuple #[.agg #[.bool false, .string ⟨#[]⟩, .string ⟨#[]⟩], .int .i64 7]) (by simp [results, Try.f14, go_sem, s0, s1, s2]) rfl ⟨by rw [HV3.out]; rfl, ((hB5.setCell (p := ⟨w.heap.size, 0, none⟩) (Nat.le_refl _) _).setCell (p := ⟨w.heap.size, 1, none⟩) (Nat.le_refl _) _).setCell (p := ⟨w.heap.size, 2, none⟩) (Nat.le_refl _) _⟩
end Go.Proofs.Ytdfnlcigbmiafaa

/- Walks: the law's short, its example, and the laws WebhookBuilds and WebhookDeep (chapter 37). -/
namespace Go.Proofs.Ytdfnlcigbmiafaa
open Go.RowKit
set_option linter.unusedVariables false
set_option linter.unusedSimpArgs false
def cut37 (m : Nat) (s : ByteArray) : ByteArray := s.extract 0 (min s.size m)
theorem cut37_size (m : Nat) (s : ByteArray) : (cut37 m s).size ≤ m := by unfold cut37; rw [ByteArray.size_extract]; omega
set_option maxRecDepth 100000 in
set_option maxHeartbeats 4000000 in
theorem short37_any (f : Bool) (r b : ByteArray) (w : World) (hr : r.size ≤ 9223372036854775807) (hb : b.size ≤ 9223372036854775807) :
    Calls Try.prog 7 #[.agg #[.bool f, .string r, .string b]] w fun e w' => e = .returned (.agg #[.bool f, .string (cut37 120 r), .string (cut37 250 b)]) ∧ Below w.heap.size w w' := by
  have e1 : (r.extract 0 (min (r.size : Int) 120).toNat = cut37 120 r) := by
    unfold cut37; congr 1; omega
  have e2 : (b.extract 0 (min (b.size : Int) 250).toNat = cut37 250 b) := by
    unfold cut37; congr 1; omega
  generalize cut37 120 r = R2 at *
  generalize cut37 250 b = B2 at *
  have HX1 := Lib.hid ((Blk.new w 23 #[.bool f, .string r, .string b]).alloc (.cells #[.bool false, .string ⟨#[]⟩, .string ⟨#[]⟩] 23))
  have HY1 := Lib.hid (Blk.new (w.alloc (.cells #[.bool f, .string r, .string b] 23)) 23 #[.bool false, .string ⟨#[]⟩, .string ⟨#[]⟩])
  rw [World.size_alloc] at HY1
  have HB1 := Lib.hid (((Below.refl w.heap.size w).alloc (Nat.le_refl _) (.cells #[.bool f, .string r, .string b] 23)).alloc (by rw [World.size_alloc]; exact Nat.le_succ _) (.cells #[.bool false, .string ⟨#[]⟩, .string ⟨#[]⟩] 23))
  go_enter Try.func7, Try.ntmps7
  go_upto_region 1 with fail
  generalize hW : (w.alloc (.cells #[.bool f, .string r, .string b] 23)).alloc (.cells #[.bool false, .string ⟨#[]⟩, .string ⟨#[]⟩] 23) = W1 at *
  clear hW
  have K1 : W1.drew.cell? ⟨w.heap.size, 0, none⟩ = some (.bool f) ∧ W1.drew.cell? ⟨w.heap.size, 1, none⟩ = some (.string r) ∧ W1.drew.cell? ⟨w.heap.size, 2, none⟩ = some (.string b) := ⟨HX1.out.cell 0, HX1.out.cell 1, HX1.out.cell 2⟩
  have y0 := HY1.out.cell 0
  have y1 := HY1.out.cell 1
  have y2 := HY1.out.cell 2
  have f0 := HY1.out.frozen 0
  have f1 := HY1.out.frozen 1
  have f2 := HY1.out.frozen 2
  have d1 : (0 : Int) ≤ min (r.size : Int) 120 := by omega
  have d2 : min (r.size : Int) 120 ≤ (r.size : Int) := by omega
  have d3 : (0 : Int) ≤ min (b.size : Int) 250 := by omega
  have d4 : min (b.size : Int) 250 ≤ (b.size : Int) := by omega
  have HX2 := Lib.hid (((HX1.out.far (p := ⟨w.heap.size + 1, 0, none⟩) (by show w.heap.size ≠ w.heap.size + 1; omega) (.bool f)).far (p := ⟨w.heap.size + 1, 1, none⟩) (by show w.heap.size ≠ w.heap.size + 1; omega) (.string R2)).far (p := ⟨w.heap.size + 1, 2, none⟩) (by show w.heap.size ≠ w.heap.size + 1; omega) (.string B2))
  have HY2 := Lib.hid (((HY1.out.set_ 0 (.bool f)).set_ 1 (.string R2)).set_ 2 (.string B2))
  have HB2 := Lib.hid (((HB1.out.setCell (p := ⟨w.heap.size + 1, 0, none⟩) (Nat.le_succ _) (.bool f)).setCell (p := ⟨w.heap.size + 1, 1, none⟩) (Nat.le_succ _) (.string R2)).setCell (p := ⟨w.heap.size + 1, 2, none⟩) (Nat.le_succ _) (.string B2))
  have K3 : (((W1.setCell ⟨w.heap.size + 1, 0, none⟩ (.bool f)).setCell ⟨w.heap.size + 1, 1, none⟩ (.string R2)).setCell ⟨w.heap.size + 1, 2, none⟩ (.string B2)).drew.cell? ⟨w.heap.size, 0, none⟩ = some (.bool f) ∧ (((W1.setCell ⟨w.heap.size + 1, 0, none⟩ (.bool f)).setCell ⟨w.heap.size + 1, 1, none⟩ (.string R2)).setCell ⟨w.heap.size + 1, 2, none⟩ (.string B2)).drew.cell? ⟨w.heap.size, 1, none⟩ = some (.string r) ∧ (((W1.setCell ⟨w.heap.size + 1, 0, none⟩ (.bool f)).setCell ⟨w.heap.size + 1, 1, none⟩ (.string R2)).setCell ⟨w.heap.size + 1, 2, none⟩ (.string B2)).drew.cell? ⟨w.heap.size, 2, none⟩ = some (.string b) := ⟨HX2.out.cell 0, HX2.out.cell 1, HX2.out.cell 2⟩
  go_region_held3 (fun w' => w'.cell? ⟨w.heap.size, 0, none⟩ = some (.bool f) ∧ w'.cell? ⟨w.heap.size, 1, none⟩ = some (.string r) ∧ w'.cell? ⟨w.heap.size, 2, none⟩ = some (.string b)) (first | (with_reducible exact K1) | (with_reducible exact K3)) (fail)
  all_goals
    go_wp2_with fail
    have t0 : (((W1.setCell ⟨w.heap.size + 1, 0, none⟩ (.bool f)).setCell ⟨w.heap.size + 1, 1, none⟩ (.string R2)).setCell ⟨w.heap.size + 1, 2, none⟩ (.string B2)).drew.cell? ⟨w.heap.size + 1, 0, none⟩ = some (.bool f) := HY2.out.cell 0
    have t1 : (((W1.setCell ⟨w.heap.size + 1, 0, none⟩ (.bool f)).setCell ⟨w.heap.size + 1, 1, none⟩ (.string R2)).setCell ⟨w.heap.size + 1, 2, none⟩ (.string B2)).drew.cell? ⟨w.heap.size + 1, 1, none⟩ = some (.string R2) := HY2.out.cell 1
    have t2 : (((W1.setCell ⟨w.heap.size + 1, 0, none⟩ (.bool f)).setCell ⟨w.heap.size + 1, 1, none⟩ (.string R2)).setCell ⟨w.heap.size + 1, 2, none⟩ (.string B2)).drew.cell? ⟨w.heap.size + 1, 2, none⟩ = some (.string B2) := HY2.out.cell 2
    exact bodyPost_ret (v := .agg #[.bool f, .string R2, .string B2]) (by simp [results, Try.f7, go_sem, t0, t1, t2]) rfl ⟨rfl, HB2.out.drew⟩
theorem awk37_e : hookE [97, 34, 98] [91, 49, 93] = 0 := by decide +kernel
theorem awk37_t : hookL true [97, 34, 98] [91, 49, 93] = [123, 34, 114, 101, 99, 101, 105, 118, 101, 114, 34, 58, 34, 97, 92, 34, 98, 34, 44, 34, 115, 116, 97, 116, 117, 115, 34, 58, 34, 102, 105, 114, 105, 110, 103, 34, 44, 34, 98, 111, 100, 121, 34, 58, 91, 49, 93, 125] := by decide +kernel
theorem awake37_any (w : World) :
    Calls Try.prog 11 #[] w fun e w' => e = .returned (.bool true) ∧ Below w.heap.size w w' := by
  have T1 := Lib.hid (fun w => wbuild_any true ⟨#[97, 34, 98]⟩ ⟨#[91, 49, 93]⟩ w (by decide) (by decide))
  have e1 : hookE (ByteArray.mk #[97, 34, 98]).data.toList (ByteArray.mk #[91, 49, 93]).data.toList = 0 := awk37_e
  rw [hookT_ok e1, e1, show hookL true (ByteArray.mk #[97, 34, 98]).data.toList (ByteArray.mk #[91, 49, 93]).data.toList = _ from awk37_t] at T1
  have T2 : Hid (∀ w, Calls Try.prog 8 #[.agg #[.bool true, .string ⟨#[97, 34, 98]⟩, .string ⟨#[91, 49, 93]⟩]] w fun e w' => e = .returned (.tuple #[.string ⟨#[123, 34, 114, 101, 99, 101, 105, 118, 101, 114, 34, 58, 34, 97, 92, 34, 98, 34, 44, 34, 115, 116, 97, 116, 117, 115, 34, 58, 34, 102, 105, 114, 105, 110, 103, 34, 44, 34, 98, 111, 100, 121, 34, 58, 91, 49, 93, 125]⟩, .int .i64 0]) ∧ Below w.heap.size w w') := T1
  clear T1 e1
  go_enter Try.func11, Try.ntmps11
  go_wp2_with fail
  refine (T2.out _).mono ?_
  rintro e w2 ⟨rfl, b2⟩
  go_wp2_with fail
  go_ret
  exact ⟨rfl, b2⟩
set_option maxRecDepth 100000 in
set_option maxHeartbeats 4000000 in
theorem lawBuilds37 (f : Bool) (r b : ByteArray) (w : World) (hr : r.size ≤ 9223372036854775807) (hb : b.size ≤ 9223372036854775807) :
    Calls Try.prog 3 #[.agg #[.bool f, .string r, .string b]] w fun e w' => e = .returned (.bool true) ∧ Below w.heap.size w w' := by
  have HS := Lib.hid (fun w => short37_any f r b w hr hb)
  have z1 := cut37_size 120 r
  have z2 := cut37_size 250 b
  generalize cut37 120 r = r2 at *
  generalize cut37 250 b = b2 at *
  have HP := Lib.hid (fun w => wbuild_any f r2 b2 w (by omega) (by omega))
  have HR := Lib.hid (fun w => hbuild_any f r2 b2 w (by omega) (by omega))
  have HC := Lib.hid (fun w => wcheck_any f r2 b2 w (by omega) (by omega))
  have HA := Lib.hid awake37_any
  generalize hookT f r2.data.toList b2.data.toList = X at *
  generalize hookE r2.data.toList b2.data.toList = E at *
  have HX1 := Lib.hid (Blk.new w 23 #[.bool f, .string r, .string b])
  have HB1 := Lib.hid ((Below.refl w.heap.size w).alloc (Nat.le_refl _) (.cells #[.bool f, .string r, .string b] 23))
  go_enter Try.func3, Try.ntmps3
  go_upto_region 1 with fail
  generalize hW : w.alloc (.cells #[.bool f, .string r, .string b] 23) = W1 at *
  clear hW
  have x0 := HX1.out.cell 0
  have x1 := HX1.out.cell 1
  have x2 := HX1.out.cell 2
  go_wp2_with fail
  refine (HS.out _).mono ?_
  rintro e w2 ⟨rfl, k2⟩
  have HX2 := Lib.hid (HX1.out.below k2 HX1.out.lt)
  have HB2 := Lib.hid (HB1.out.trans (k2.mono HB1.out.size))
  clear x0 x1 x2 k2 HX1 HB1
  have x0 := HX2.out.cell 0
  have x1 := HX2.out.cell 1
  have x2 := HX2.out.cell 2
  have f0 := HX2.out.frozen 0
  have f1 := HX2.out.frozen 1
  have f2 := HX2.out.frozen 2
  have HX3 := Lib.hid (((HX2.out.set_ 0 (.bool f)).set_ 1 (.string r2)).set_ 2 (.string b2))
  have HB3 := Lib.hid (((HB2.out.setCell (p := ⟨w.heap.size, 0, none⟩) (Nat.le_refl _) (.bool f)).setCell (p := ⟨w.heap.size, 1, none⟩) (Nat.le_refl _) (.string r2)).setCell (p := ⟨w.heap.size, 2, none⟩) (Nat.le_refl _) (.string b2))
  clear HX2 HB2
  go_upto_region 2 with fail
  clear x0 x1 x2 f0 f1 f2
  generalize hW : ((w2.setCell ⟨w.heap.size, 0, none⟩ (.bool f)).setCell ⟨w.heap.size, 1, none⟩ (.string r2)).setCell ⟨w.heap.size, 2, none⟩ (.string b2) = W3 at *
  clear hW
  have x0 := HX3.out.cell 0
  have x1 := HX3.out.cell 1
  have x2 := HX3.out.cell 2
  go_wp2_with fail
  refine (HP.out _).mono ?_
  rintro e w4 ⟨rfl, k4⟩
  have HX4 := Lib.hid (HX3.out.below k4 HX3.out.lt)
  have HB4 := Lib.hid (HB3.out.trans (k4.mono HB3.out.size))
  clear x0 x1 x2 k4 HX3 HB3
  have x0 := HX4.out.cell 0
  have x1 := HX4.out.cell 1
  have x2 := HX4.out.cell 2
  go_wp2_with fail
  refine (HR.out _).mono ?_
  rintro e w5 ⟨rfl, k5⟩
  have HX5 := Lib.hid (HX4.out.below k5 HX4.out.lt)
  have HB5 := Lib.hid (HB4.out.trans (k5.mono HB4.out.size))
  clear x0 x1 x2 k5 HX4 HB4
  have x0 := HX5.out.cell 0
  have x1 := HX5.out.cell 1
  have x2 := HX5.out.cell 2
  have qX : (X.toList == X.toList) = true := by simp
  have qE : (E == E) = true := beq_self_eq_true E
  go_wp2_with fail
  refine (HC.out _).mono ?_
  rintro e w6 ⟨rfl, k6⟩
  have HB6 := Lib.hid (HB5.out.trans (k6.mono HB5.out.size))
  clear x0 x1 x2 k6 HX5 HB5
  go_wp2_with fail
  refine (HA.out _).mono ?_
  rintro e w7 ⟨rfl, k7⟩
  go_wp2_with fail
  go_ret
  exact ⟨rfl, HB6.out.trans (k7.mono HB6.out.size)⟩
end Go.Proofs.Ytdfnlcigbmiafaa

/- Walks: the law WebhookReads (chapter 37). -/
namespace Go.Proofs.Ytdfnlcigbmiafaa
open Go.RowKit
set_option linter.unusedVariables false
set_option linter.unusedSimpArgs false
set_option linter.constructorNameAsVariable false
theorem hread_any (s : ByteArray) (w : World) (hs : s.size ≤ 2000) :
    Calls Try.prog 14 #[.string s] w fun e w' => e = .returned (readV37 (readR s.data.toList)) ∧ Below w.heap.size w w' := by
  cases hp : parseJ s.data.toList with
  | error c => exact hread_err s c w (by omega) hp
  | ok n =>
    by_cases hk : n.kind = 123 ∧ n.kids.length = 3
    · obtain ⟨q, t, ks, ns⟩ := n
      obtain ⟨h1, h2⟩ := hk
      have h1' : q = 123 := h1
      subst h1'
      match ns, h2 with
      | [n1, n2, n3], _ => exact hread_three s t ks n1 n2 n3 w hs hp
    · exact hread_kind s n w (by omega) hp hk
theorem readV_shape (o : Option (Bool × List UInt8 × List UInt8)) : ∃ (F : Bool) (R B : ByteArray) (c : Int), readV37 o = .tuple #[.agg #[.bool F, .string R, .string B], .int .i64 c] := by
  cases o with
  | none => exact ⟨_, _, _, _, rfl⟩
  | some p => exact ⟨_, _, _, _, rfl⟩
set_option maxRecDepth 100000 in
set_option maxHeartbeats 4000000 in
theorem lawReads37 (s : ByteArray) (w : World) (hs : s.size ≤ 9223372036854775807) (hm : MaxC w) :
    Calls Try.prog 5 #[.string s] w fun e w' => e = .returned (.bool true) ∧ Below w.heap.size w w' := by
  have e1 : s.extract 0 (min (s.size : Int) 400).toNat = cut37 400 s := by
    unfold cut37; congr 1; omega
  have d1 : (0 : Int) ≤ min (s.size : Int) 400 := by omega
  have d2 : min (s.size : Int) 400 ≤ (s.size : Int) := by omega
  have hz := cut37_size 400 s
  generalize cut37 400 s = t at *
  obtain ⟨F, R, B, c, hV⟩ := readV_shape (readP t.data.toList)
  have HP : Hid (∀ w, MaxC w → Calls Try.prog 13 #[.string t] w fun e w' => e = .returned (.tuple #[.agg #[.bool F, .string R, .string B], .int .i64 c]) ∧ Below w.heap.size w w') := by
    intro w hm
    have := wread_any t w (by omega) hm
    rw [hV] at this; exact this
  have HQ : Hid (∀ w, Calls Try.prog 14 #[.string t] w fun e w' => e = .returned (.tuple #[.agg #[.bool F, .string R, .string B], .int .i64 c]) ∧ Below w.heap.size w w') := by
    intro w
    have := hread_any t w (by omega)
    rw [← read_same37, hV] at this; exact this
  have HA := Lib.hid awake37_any
  have HM := Lib.hid hm
  clear hV hm
  go_enter Try.func5, Try.ntmps5
  go_wp2_with fail
  refine (HP.out _ HM.out).mono ?_
  rintro e w2 ⟨rfl, b2⟩
  have HX2 := Lib.hid (Blk.new w2 23 #[.bool F, .string R, .string B])
  have HB2 := Lib.hid (b2.alloc b2.size (.cells #[.bool F, .string R, .string B] 23))
  clear b2 HM
  go_upto_region 3 with fail
  generalize hB1 : w2.heap.size = B1 at *
  generalize hW : w2.alloc (.cells #[.bool F, .string R, .string B] 23) = W3 at *
  clear hW hB1
  go_wp2_with fail
  refine (HQ.out _).mono ?_
  rintro e w4 ⟨rfl, b4⟩
  have HX4 := Lib.hid ((HX2.out.below b4 HX2.out.lt).alloc (.cells #[.bool F, .string R, .string B] 23))
  have HY4 := Lib.hid (Blk.new w4 23 #[.bool F, .string R, .string B])
  have HB4 := Lib.hid ((HB2.out.trans (b4.mono HB2.out.size)).alloc (HB2.out.trans (b4.mono HB2.out.size)).size (.cells #[.bool F, .string R, .string B] 23))
  clear b4 HX2 HB2
  go_upto_region 4 with fail
  generalize hB2 : w4.heap.size = B2 at *
  generalize hW : w4.alloc (.cells #[.bool F, .string R, .string B] 23) = W5 at *
  clear hW hB2
  have x0 := HX4.out.cell 0
  have x1 := HX4.out.cell 1
  have x2 := HX4.out.cell 2
  have y0 := HY4.out.cell 0
  have y1 := HY4.out.cell 1
  have y2 := HY4.out.cell 2
  have qR : (R.toList == R.toList) = true := by simp
  have qB : (B.toList == B.toList) = true := by simp
  have qc : (c == c) = true := by simp
  go_wp2_with fail
  refine (HA.out _).mono ?_
  rintro e w6 ⟨rfl, b6⟩
  go_wp2_with fail
  go_ret
  exact ⟨rfl, HB4.out.trans (b6.mono HB4.out.size)⟩
end Go.Proofs.Ytdfnlcigbmiafaa

/- Walks: the document's Same of two rows of texts (chapter 1). -/
namespace Go.Proofs.Ytdfnlcigbmiafaa
open Go.RowKit
set_option linter.unusedVariables false
set_option linter.unusedSimpArgs false
theorem strC_at {ks : List (List UInt8)} {j : Nat} {u : List UInt8} (h : ks[j]? = some u) : (strC ks)[j]? = some (.string (strOf u)) := by
  unfold strC; rw [List.getElem?_map, h]; rfl
/-- A row of texts in memory. -/
def TxtR (w : World) (ks : List (List UInt8)) (v : Value) : Prop := ∃ ao cap, v = .slice ao ks.length cap ∧
  ∀ (j : Nat) (u : List UInt8), ks[j]? = some u → ∃ g, ao = some ⟨g, 0, none⟩ ∧ g < w.heap.size ∧ w.cell? ⟨g, j, none⟩ = some (.string (strOf u))
theorem TxtR.of {w : World} {ok : Nat → Prop} {v : Value} {ks : List (List UInt8)} (h : RowW w ok v ks.length (strC ks)) : TxtR w ks v := by
  rcases h with ⟨hv, h0, _⟩ | ⟨g, cap, hv, _, hl, hc⟩
  · exact ⟨none, 0, by rw [hv, h0], fun j u hu => by rw [List.getElem?_eq_none (by omega)] at hu; cases hu⟩
  · exact ⟨_, cap, hv, fun j u hu => ⟨g, rfl, hl, hc j _ (strC_at hu)⟩⟩
theorem str_same (a b : List UInt8) : ((strOf a).toList == (strOf b).toList) = decide (a = b) := by
  rw [ByteArray.toList_eq, ByteArray.toList_eq, strOf_list, strOf_list]
  by_cases h : a = b <;> simp [h]
set_option maxRecDepth 100000 in
set_option maxHeartbeats 1000000 in
theorem rsame_any (ks ks2 : List (List UInt8)) (v v2 : Value) (w : World) (h1 : TxtR w ks v) (h2 : TxtR w ks2 v2) (l1 : ks.length ≤ 1000000) (l2 : ks2.length ≤ 1000000) :
    Calls Try.prog 15 #[v, v2] w fun e w' => e = .returned (.bool (decide (ks = ks2))) ∧ Below w.heap.size w w' := by
  obtain ⟨a1, p1, rfl, C1⟩ := h1
  obtain ⟨a2, p2, rfl, C2⟩ := h2
  by_cases hn : ks.length = ks2.length
  · have HC2 := Lib.hid C2
    have HC1 := Lib.hid C1
    have HN := Lib.hid hn
    have hq : ((ks.length : Int) == (ks.length : Int)) = true := by simp
    rw [← hn]
    clear C1 C2 hn l2
    go_enter Try.func15, Try.ntmps15
    go_wp2_with fail
    go_loopw [5] (fun z wr => ∃ i : Nat, z = .int .i64 i ∧ i ≤ ks.length ∧ (∀ j, j < i → ks[j]? = ks2[j]?) ∧ Below w.heap.size w wr) (fun z _ => ks.length - (intOf z).toNat)
    case atStart => exact ⟨0, rfl, Nat.zero_le _, fun j hj => by omega, Below.refl _ _⟩
    case round =>
      obtain ⟨i, rfl, hi, hs, hb⟩ := hrel
      have HS := Lib.hid hs
      have HB := Lib.hid hb
      clear hs hb
      by_cases hlt : i < ks.length
      · obtain ⟨u, hu⟩ : ∃ u, ks[i]? = some u := ⟨_, List.getElem?_eq_getElem hlt⟩
        obtain ⟨u2, hu2⟩ : ∃ u, ks2[i]? = some u := ⟨_, List.getElem?_eq_getElem (by have := HN.out; omega)⟩
        obtain ⟨g1, rfl, hg1, d1⟩ := HC1.out i u hu
        obtain ⟨g2, rfl, hg2, d2⟩ := HC2.out i u2 hu2
        have e1 := (HB.out.cell (p := ⟨g1, i, none⟩) hg1).trans d1
        have e2 := (HB.out.cell (p := ⟨g2, i, none⟩) hg2).trans d2
        obtain ⟨b, hb⟩ : ∃ b, decide (u = u2) = b := ⟨_, rfl⟩
        have hb2 := (str_same u u2).trans hb
        have HBB := Lib.hid hb
        generalize strOf u = x at *
        generalize strOf u2 = y at *
        have HU := Lib.hid hu
        have HU2 := Lib.hid hu2
        clear d1 d2 hb hu hu2
        go_wp2_with fail
        go_region_held3 (fun w' => w'.cell? ⟨g1, i, none⟩ = some (.string x) ∧ w'.cell? ⟨g2, i, none⟩ = some (.string y)) (exact ⟨e1, e2⟩) (fail)
        cases b
        · go_wp2_with fail
          go_ret
          refine ⟨?_, HB.out.drew⟩
          rw [decide_eq_false (fun h => of_decide_eq_false HBB.out (by subst h; exact Option.some.inj (HU.out.symm.trans HU2.out)))]; rfl
        · go_wp2_with fail
          go_roundw
          case rel =>
            refine ⟨i + 1, by go_num, by omega, fun j hj => ?_, HB.out.drew⟩
            rcases Nat.lt_or_ge j i with h | h
            · exact HS.out j h
            · obtain rfl : j = i := by omega
              rw [HU.out, HU2.out, of_decide_eq_true HBB.out]
          case measure => simp [intOf]; omega
      · go_wp2_with fail
        go_ret
        refine ⟨?_, HB.out⟩
        rw [decide_eq_true (List.ext_getElem? fun j => ?_)]
        · rfl
        · rcases Nat.lt_or_ge j i with h | h
          · exact HS.out j h
          · rw [List.getElem?_eq_none (by omega), List.getElem?_eq_none (by have := HN.out; omega)]
  · have hq : ((ks.length : Int) == (ks2.length : Int)) = false := by simp; omega
    have HV : Hid (decide (ks = ks2) = false) := decide_eq_false (fun h => hn (by rw [h]))
    clear C1 C2
    go_enter Try.func15, Try.ntmps15
    go_wp2_with fail
    go_ret
    exact ⟨by rw [HV.out]; rfl, Below.refl _ _⟩
end Go.Proofs.Ytdfnlcigbmiafaa

/- Walks: is a text of some row no UTF-8 (slices.ContainsFunc over texts; chapter 10). -/
namespace Go.Proofs.Ytdfnlcigbmiafaa
open Go.RowKit
set_option linter.unusedVariables false
set_option linter.unusedSimpArgs false
theorem txtR_below {w w' : World} {ks : List (List UInt8)} {v : Value} (h : TxtR w ks v) (hb : Below w.heap.size w w') : TxtR w' ks v := by
  obtain ⟨ao, cap, hv, hc⟩ := h
  refine ⟨ao, cap, hv, fun j u hu => ?_⟩
  obtain ⟨g, h1, h2, h3⟩ := hc j u hu
  exact ⟨g, h1, Nat.lt_of_lt_of_le h2 hb.size, (hb.cell (p := ⟨g, j, none⟩) h2).trans h3⟩
theorem first_bad (ks : List (List UInt8)) : (∃ (i : Nat) (u : List UInt8), ks[i]? = some u ∧ good u = false ∧ ∀ (j : Nat) (u : List UInt8), j < i → ks[j]? = some u → good u = true) ∨ (∀ (j : Nat) (u : List UInt8), ks[j]? = some u → good u = true) := by
  induction ks with
  | nil => exact .inr fun j u h => by simp at h
  | cons k ks ih =>
    cases hk : good k
    · exact .inl ⟨0, k, rfl, hk, fun j u hj => by omega⟩
    · rcases ih with ⟨i, u, h1, h2, h3⟩ | h
      · refine .inl ⟨i + 1, u, h1, h2, fun j u' hj hu => ?_⟩
        cases j with
        | zero => cases hu; exact hk
        | succ j => exact h3 j u' (by omega) hu
      · refine .inr fun j u hu => ?_
        cases j with
        | zero => cases hu; exact hk
        | succ j => exact h j u hu
end Go.Proofs.Ytdfnlcigbmiafaa

/- Walks: is a text just one token (chapter 10). -/
namespace Go.Proofs.Ytdfnlcigbmiafaa
open Go.RowKit
set_option linter.unusedVariables false
set_option linter.unusedSimpArgs false
def aloneB (l : List UInt8) (kind : Nat) : Bool := match toks l with
  | some [t] => decide (t.kind = kind) && decide (t.text = l)
  | _ => false
end Go.Proofs.Ytdfnlcigbmiafaa

/- Walks: may a node come of Parse (json.fits; chapter 10). -/
namespace Go.Proofs.Ytdfnlcigbmiafaa
open Go.RowKit
set_option linter.unusedVariables false
set_option linter.unusedSimpArgs false
def okK (q : Nat) (t : List UInt8) (ks : List (List UInt8)) (ns : List Node) : Bool :=
  if q = 34 then decide (ks.length + ns.length = 0)
  else if q = 48 ∨ q = 97 then decide (ks.length + ns.length = 0) && aloneB t q
  else if q = 91 then decide (ks.length = 0) && decide (t = [])
  else if q = 123 then decide (ks.length = ns.length) && (ks.all fun k => good k) && decide (t = [])
  else false
mutual
def fitsN : Node → Nat → Bool
  | .mk q t ks ns, d => decide (d ≤ 32) && good t && okK q t ks ns && fitsL ns (d + 1)
def fitsL : List Node → Nat → Bool
  | [], _ => true
  | n :: ns, d => fitsN n d && fitsL ns d
end
mutual
/-- A node of bounded parts. -/
def SmallN : Node → Prop
  | .mk q t ks ns => t.length ≤ 100000 ∧ (∀ k ∈ ks, k.length ≤ 100000) ∧ ks.length ≤ 100000 ∧ ns.length ≤ 100000 ∧ SmallL ns
def SmallL : List Node → Prop
  | [] => True
  | n :: ns => SmallN n ∧ SmallL ns
end
theorem fitsL_at {ns : List Node} {d : Nat} : fitsL ns d = true ↔ ∀ (j : Nat) (n : Node), ns[j]? = some n → fitsN n d = true := by
  induction ns with
  | nil => simp [fitsL]
  | cons m ns ih =>
    rw [fitsL, Bool.and_eq_true, ih]
    constructor
    · rintro ⟨h1, h2⟩ j n hn
      cases j with
      | zero => cases hn; exact h1
      | succ j => exact h2 j n hn
    · intro h
      exact ⟨h 0 m rfl, fun j n hn => h (j + 1) n hn⟩
theorem SmallL.at {ns : List Node} (h : SmallL ns) {j : Nat} {n : Node} (hn : ns[j]? = some n) : SmallN n := by
  induction ns generalizing j with
  | nil => simp at hn
  | cons m ns ih =>
    unfold SmallL at h
    cases j with
    | zero => cases hn; exact h.1
    | succ j => exact ih h.2 hn
-- WALKS
theorem first_misfit (ns : List Node) (d : Nat) : (∃ (i : Nat) (n : Node), ns[i]? = some n ∧ fitsN n d = false ∧ ∀ (j : Nat) (m : Node), j < i → ns[j]? = some m → fitsN m d = true) ∨ (∀ (j : Nat) (m : Node), ns[j]? = some m → fitsN m d = true) := by
  induction ns with
  | nil => exact .inr fun j u h => by simp at h
  | cons k ks ih =>
    cases hk : fitsN k d
    · exact .inl ⟨0, k, rfl, hk, fun j u hj => by omega⟩
    · rcases ih with ⟨i, u, h1, h2, h3⟩ | h
      · refine .inl ⟨i + 1, u, h1, h2, fun j u' hj hu => ?_⟩
        cases j with
        | zero => cases hu; exact hk
        | succ j => exact h3 j u' (by omega) hu
      · refine .inr fun j u hu => ?_
        cases j with
        | zero => cases hu; exact hk
        | succ j => exact h j u hu
/-- A kid in memory. -/
theorem kid_at {w wr : World} {ok : Nat → Prop} {v : Value} {ns : List Node} {cs : List Value} (hr : RowW w ok v ns.length cs) (hk : KidsW w ok ns cs) {j : Nat} {n : Node} (hn : ns[j]? = some n) (hb : Below w.heap.size w wr) :
    ∃ (g cap : Nat) (a b c d : Value), v = .slice (some ⟨g, 0, none⟩) ns.length cap ∧ wr.cell? ⟨g, j * 4, none⟩ = some a ∧ wr.cell? ⟨g, j * 4 + 1, none⟩ = some b ∧ wr.cell? ⟨g, j * 4 + 2, none⟩ = some c ∧ wr.cell? ⟨g, j * 4 + 3, none⟩ = some d ∧ NodeW wr ok n (.agg #[a, b, c, d]) := by
  obtain ⟨a, b, c, d, e1, e2, e3, e4, x⟩ := KidsW.at ns cs j n hk hn
  rcases hr with ⟨_, h0, hc⟩ | ⟨g, cap, hv, hg, hl, hc⟩
  · have h1 := List.length_eq_zero_iff.1 h0
    subst h1; simp at hn
  · exact ⟨g, cap, a, b, c, d, hv, (hb.cell (p := ⟨g, j * 4, none⟩) hl).trans (hc _ _ e1), (hb.cell (p := ⟨g, j * 4 + 1, none⟩) hl).trans (hc _ _ e2), (hb.cell (p := ⟨g, j * 4 + 2, none⟩) hl).trans (hc _ _ e3), (hb.cell (p := ⟨g, j * 4 + 3, none⟩) hl).trans (hc _ _ e4),
      NodeW.mono (fun g hg hl => ⟨hg, Nat.lt_of_lt_of_le hl hb.size, hb.block g hl⟩) n _ x⟩
theorem rowW_len {w : World} {ok : Nat → Prop} {v : Value} {n : Nat} {xs : List Value} (h : RowW w ok v n xs) : ∃ o c, v = .slice o n c := by
  rcases h with ⟨hv, h0, _⟩ | ⟨g, cap, hv, _⟩
  · exact ⟨_, _, by rw [hv, h0]⟩
  · exact ⟨_, _, hv⟩
end Go.Proofs.Ytdfnlcigbmiafaa

/- Walks: json.fits and json.Is (chapter 10). -/
namespace Go.Proofs.Ytdfnlcigbmiafaa
open Go.RowKit
set_option linter.unusedVariables false
set_option linter.unusedSimpArgs false
theorem SmallL.all {ns : List Node} (h : SmallL ns) : ∀ n ∈ ns, SmallN n := fun n hn => by
  obtain ⟨j, hj⟩ := List.getElem?_of_mem hn
  exact h.at hj
theorem eq_of_dec (n m : Nat) : ((n : Int) == (m : Int)) = decide (n = m) := by
  by_cases h : n = m
  · simp [h]
  · have : ¬ ((n : Int) = (m : Int)) := by omega
    simp [h, this]
theorem sum_zero (n m : Nat) : ((n : Int) + (m : Int) == 0) = decide (n + m = 0) := by
  by_cases h : n + m = 0
  · rw [decide_eq_true h]; have : (n : Int) + m = 0 := by omega
    simp [this]
  · rw [decide_eq_false h]; have : ¬ ((n : Int) + m = 0) := by omega
    simp [this]
theorem str_nil (t : List UInt8) : (strOf t).toList.isEmpty = decide (t = []) := by
  rw [ByteArray.toList_eq, strOf_list]; cases t <;> simp
theorem str_nil2 (t : List UInt8) : ((strOf t).toList == []) = decide (t = []) := by
  rw [ByteArray.toList_eq, strOf_list]; cases t <;> simp

end Go.Proofs.Ytdfnlcigbmiafaa

/- Plain: a number's text is one token, by itself (chapter 10). -/
namespace Go.Proofs.Ytdfnlcigbmiafaa
set_option linter.unusedVariables false
set_option linter.unusedSimpArgs false
theorem digN_take : ∀ (l : List UInt8) (m : Nat), digN (l.take m) = min (digN l) m
  | [], m => by simp [digN]
  | c :: t, 0 => by simp [digN]
  | c :: t, m + 1 => by
    rw [List.take_succ_cons, digN_cons, digN_cons]
    split
    · rw [digN_take t m]; omega
    · simp
theorem digE_take {x : List UInt8} {e k : Nat} (h : k ≤ e) : digE (x.take e) k = min (digE x k) e := by
  unfold digE
  rw [List.drop_take, digN_take]
  omega
theorem bt_takeL (x : List UInt8) (e i : Nat) : bt (x.take e) i = if i < e then bt x i else 0 := by
  unfold bt
  rw [List.getD_eq_getElem?_getD, List.getD_eq_getElem?_getD, List.getElem?_take]
  split <;> rfl
theorem digE_dig {x : List UInt8} : ∀ (n k i : Nat), digE x k = k + n → k ≤ i → i < k + n → isDg (bt x i)
  | 0, k, i, h, h1, h2 => by omega
  | n + 1, k, i, h, h1, h2 => by
    have hp := digE_pos (l := x) (k := k) (by omega)
    by_cases hi : i = k
    · subst hi; exact hp.2
    · have h3 := digE_yes hp.1 hp.2
      exact digE_dig n (k + 1) i (by omega) (by omega) (by omega)
theorem digE_all {x : List UInt8} {k i : Nat} (h1 : k ≤ i) (h2 : i < digE x k) : isDg (bt x i) :=
  digE_dig (digE x k - k) k i (by have := digE_ge x k; omega) h1 (by have := digE_ge x k; omega)
/-- A number, cut behind its end, is the number. -/
theorem numE_cut {x : List UInt8} {e : Nat} (h : numE x 0 = some e) : numE (x.take e) 0 = some e ∧ (∀ i, i < e → bt x i < 128) ∧ (bt x 0 = 45 ∨ isDg (bt x 0)) ∧ 0 < e := by
  unfold numE at h ⊢
  by_cases hd : digE x (numStart x 0) = numStart x 0
  · rw [if_pos hd] at h; cases h
  rw [if_neg hd] at h
  simp only [Option.some.injEq] at h
  obtain ⟨s0, hs0⟩ : ∃ s0, numStart x 0 = s0 := ⟨_, rfl⟩
  obtain ⟨i1, hi1⟩ : ∃ i1, numInt x s0 = i1 := ⟨_, rfl⟩
  obtain ⟨i2, hi2⟩ : ∃ i2, numFrac x i1 = i2 := ⟨_, rfl⟩
  rw [hs0] at h hd
  rw [hi1, hi2] at h
  have hp := digE_pos hd
  have hge := digE_ge x s0
  have hs1 : (bt x 0 = 45 ∧ s0 = 1) ∨ (bt x 0 ≠ 45 ∧ s0 = 0) := by
    unfold numStart at hs0
    by_cases h1 : bt x 0 = 45
    · rw [if_pos h1] at hs0; exact .inl ⟨h1, by omega⟩
    · rw [if_neg h1] at hs0; exact .inr ⟨h1, by omega⟩
  have hI : (bt x s0 = 48 ∧ i1 = s0 + 1) ∨ (bt x s0 ≠ 48 ∧ i1 = digE x s0) := by
    unfold numInt at hi1
    by_cases h1 : bt x s0 = 48
    · rw [if_pos h1] at hi1; exact .inl ⟨h1, hi1.symm⟩
    · rw [if_neg h1] at hi1; exact .inr ⟨h1, hi1.symm⟩
  have hI2 : s0 < i1 := by omega
  have hFr : ((bt x i1 = 46 ∧ i1 + 1 < digE x (i1 + 1)) ∧ i2 = digE x (i1 + 1)) ∨ (¬ (bt x i1 = 46 ∧ i1 + 1 < digE x (i1 + 1)) ∧ i2 = i1) := by
    unfold numFrac at hi2
    by_cases h1 : bt x i1 = 46 ∧ i1 + 1 < digE x (i1 + 1)
    · rw [if_pos h1] at hi2; exact .inl ⟨h1, hi2.symm⟩
    · rw [if_neg h1] at hi2; exact .inr ⟨h1, hi2.symm⟩
  have hi12 : i1 ≤ i2 := by omega
  obtain ⟨f, hf⟩ : ∃ f, expStart x (i2 + 1) = f := ⟨_, rfl⟩
  have hf1 : ((bt x (i2 + 1) = 43 ∨ bt x (i2 + 1) = 45) ∧ f = i2 + 2) ∨ (¬ (bt x (i2 + 1) = 43 ∨ bt x (i2 + 1) = 45) ∧ f = i2 + 1) := by
    unfold expStart at hf
    by_cases h1 : bt x (i2 + 1) = 43 ∨ bt x (i2 + 1) = 45
    · rw [if_pos h1] at hf; exact .inl ⟨h1, by omega⟩
    · rw [if_neg h1] at hf; exact .inr ⟨h1, hf.symm⟩
  have hX : ((bt x i2 = 101 ∨ bt x i2 = 69) ∧ f < digE x f ∧ e = digE x f) ∨ (e = i2) := by
    unfold numExp at h
    rw [hf] at h
    by_cases h1 : bt x i2 = 101 ∨ bt x i2 = 69
    · rw [if_pos h1] at h
      by_cases h2 : f < digE x f
      · rw [if_pos h2] at h; exact .inl ⟨h1, h2, h.symm⟩
      · rw [if_neg h2] at h; exact .inr h.symm
    · rw [if_neg h1] at h; exact .inr h.symm
  have hi2e : i2 ≤ e := by rcases hX with ⟨_, h2, h3⟩ | h3 <;> omega
  have hs0e : s0 < e := by omega
  refine ⟨?_, ?_, ?_, by omega⟩
  · have a0 : numStart (x.take e) 0 = s0 := by
      have he0 : 0 < e := by omega
      unfold numStart
      rw [bt_takeL, if_pos he0]
      rcases hs1 with ⟨h1, h2⟩ | ⟨h1, h2⟩
      · rw [if_pos h1]; omega
      · rw [if_neg h1]; omega
    have a1 : digE (x.take e) s0 = min (digE x s0) e := digE_take (by omega)
    have a2 : numInt (x.take e) s0 = i1 := by
      unfold numInt
      rw [bt_takeL, if_pos hs0e, a1]
      rcases hI with ⟨h1, h2⟩ | ⟨h1, h2⟩
      · rw [if_pos h1]; omega
      · rw [if_neg h1]; omega
    have a3 : numFrac (x.take e) i1 = i2 := by
      unfold numFrac
      rw [bt_takeL]
      rcases hFr with ⟨⟨h1, h2⟩, h3⟩ | ⟨h1, h3⟩
      · have hlt : i1 < e := by omega
        have hm : i1 + 1 < min (digE x (i1 + 1)) e := by omega
        rw [if_pos hlt, digE_take (by omega), if_pos ⟨h1, hm⟩]; omega
      · by_cases hlt : i1 < e
        · rw [if_pos hlt, digE_take (by omega), if_neg (fun y => h1 ⟨y.1, by omega⟩)]; exact h3.symm
        · rw [if_neg hlt, if_neg (fun y => by have := y.1; omega)]; exact h3.symm
    have a4 : numExp (x.take e) i2 = e := by
      unfold numExp
      rcases hX with ⟨h1, h2, h3⟩ | h3
      · have hlt : i2 + 1 < e := by omega
        have hfs : expStart (x.take e) (i2 + 1) = f := by
          unfold expStart
          rw [bt_takeL, if_pos hlt]
          rcases hf1 with ⟨h4, h5⟩ | ⟨h4, h5⟩
          · rw [if_pos h4]; omega
          · rw [if_neg h4]; omega
        have he2 : i2 < e := by omega
        have hm : f < min (digE x f) e := by omega
        rw [bt_takeL, if_pos he2, if_pos h1, hfs, digE_take (by omega), if_pos hm]; omega
      · have he2 : ¬ i2 < e := by omega
        rw [bt_takeL, if_neg he2, if_neg (by omega)]; exact h3.symm
    have hne : ¬ min (digE x s0) e = s0 := by omega
    rw [a0, a1, if_neg hne, a2, a3, a4]
  · intro i hi
    have dg : ∀ a b, a ≤ b → b < digE x a → bt x b < 128 := fun a b h1 h2 => by have := digE_all h1 h2; unfold isDg at this; omega
    by_cases c1 : i < s0
    · rcases hs1 with ⟨h1, h2⟩ | ⟨h1, h2⟩
      · have : i = 0 := by omega
        subst this; omega
      · omega
    by_cases c2 : i < i1
    · rcases hI with ⟨h1, h2⟩ | ⟨h1, h2⟩
      · have : i = s0 := by omega
        subst this; omega
      · exact dg s0 i (by omega) (by omega)
    by_cases c3 : i < i2
    · rcases hFr with ⟨⟨h1, h2⟩, h3⟩ | ⟨h1, h3⟩
      · by_cases h4 : i = i1
        · subst h4; omega
        · exact dg (i1 + 1) i (by omega) (by omega)
      · omega
    rcases hX with ⟨h1, h2, h3⟩ | h3
    · by_cases h4 : i = i2
      · subst h4; omega
      by_cases h5 : i < f
      · have h6 : i = i2 + 1 := by omega
        rcases hf1 with ⟨h7, h8⟩ | ⟨h7, h8⟩
        · subst h6; omega
        · omega
      · exact dg f i (by omega) (by omega)
    · omega
  · rcases hs1 with ⟨h1, h2⟩ | ⟨h1, h2⟩
    · exact .inl h1
    · subst h2; exact .inr hp.2
end Go.Proofs.Ytdfnlcigbmiafaa

/- Plain: what Parse gives may come of Parse (chapter 10). -/
namespace Go.Proofs.Ytdfnlcigbmiafaa
set_option linter.unusedVariables false
set_option linter.unusedSimpArgs false
def tokOK (t : Tok) : Prop := good t.text = true ∧ (t.kind = 48 ∨ t.kind = 97 → aloneB t.text t.kind = true) ∧ (t.kind = 91 ∨ t.kind = 123 → t.text = [])
theorem good_low : ∀ (l : List UInt8), (∀ b ∈ l, b.toNat < 128) → good l = true
  | [], _ => good_nil
  | b :: l, h => by rw [good_ascii (h b (by simp)), good_low l (fun x hx => h x (by simp [hx]))]
theorem strJ_good : ∀ (m : Nat) (l : List UInt8), l.length ≤ m → ∀ t n, strJ l = some (t, n) → good t = true
  | m, [], _, t, n, h => by rw [strJ_nil] at h; cases h
  | 0, _ :: _, hl, t, n, h => by simp at hl
  | m + 1, a :: r, hl, t, n, h => by
    have h0 : a :: r ≠ [] := by simp
    rw [strJ_step h0] at h
    split at h
    · simp only [Option.some.injEq, Prod.mk.injEq] at h
      obtain ⟨rfl, rfl⟩ := h
      exact good_nil
    · split at h
      · cases h
      · rename_i x k ho
        have hb := oneJ_bound ho
        cases hs : strJ ((a :: r).drop k) with
        | none => rw [hs] at h; cases h
        | some p =>
          obtain ⟨u, j⟩ := p
          rw [hs] at h
          simp only [Option.map_some, Option.some.injEq, Prod.mk.injEq] at h
          obtain ⟨rfl, rfl⟩ := h
          have hle : ((a :: r).drop k).length ≤ m := by rw [List.length_drop]; simp only [List.length_cons] at *; omega
          rw [good_enc]
          exact strJ_good m _ hle u j hs
theorem bt_mem {l : List UInt8} {b : UInt8} (h : b ∈ l) : ∃ i, i < l.length ∧ bt l i = b.toNat := by
  obtain ⟨i, hi⟩ := List.getElem?_of_mem h
  have hl := (List.getElem?_eq_some_iff.1 hi).1
  exact ⟨i, hl, by simp [bt, List.getD_eq_getElem?_getD, hi]⟩
theorem num_ok {x : List UInt8} {e : Nat} (hx : e ≤ x.length) (h : numE x 0 = some e) : good (x.take e) = true ∧ aloneB (x.take e) 48 = true := by
  obtain ⟨h1, h2, h3, h4⟩ := numE_cut h
  have hlen : (x.take e).length = e := by rw [List.length_take]; omega
  have hb0 : bt (x.take e) 0 = bt x 0 := by rw [bt_takeL, if_pos h4]
  constructor
  · apply good_low
    intro b hb
    obtain ⟨i, hi, he⟩ := bt_mem hb
    rw [← he, bt_takeL, if_pos (by omega)]
    exact h2 i (by omega)
  · have hne : x.take e ≠ [] := by intro y; rw [y] at hlen; simp at hlen; omega
    have hc : bt x 0 = 45 ∨ (48 ≤ bt x 0 ∧ bt x 0 ≤ 57) := by unfold isDg at h3; omega
    have ht : toks (x.take e) = some [⟨48, x.take e, 0, e⟩] := by
      have ho : oneT (x.take e) 0 = some ⟨48, x.take e, 0, e⟩ := by
        rw [one_kind (by omega), hb0, if_neg (by unfold markK; omega), if_neg (by omega), if_neg (by omega)]
        unfold numTok
        rw [h1]
        dsimp only
        rw [List.drop_zero, Nat.sub_zero, List.take_take, Nat.min_self]
      rw [toks_step hne, hb0, if_neg (by unfold blankK; omega), ho]
      dsimp only
      rw [List.drop_eq_nil_of_le (by omega)]
      rfl
    unfold aloneB
    rw [ht]
    simp
theorem word_ok (w : List UInt8) (h1 : ∀ b ∈ w, b.toNat < 128) (h2 : aloneB w 97 = true) (k e : Nat) : tokOK ⟨97, w, k, e⟩ := ⟨good_low w h1, fun _ => h2, fun h => (by dsimp only at h; omega)⟩
theorem alone_true : aloneB tTrue 97 = true := by kernel_rfl
theorem alone_false : aloneB tFalse 97 = true := by kernel_rfl
theorem alone_null : aloneB tNull 97 = true := by kernel_rfl
theorem oneT_ok {l : List UInt8} {k : Nat} {t : Tok} (hk : k < l.length) (h : oneT l k = some t) : tokOK t := by
  unfold oneT at h
  split at h
  · rename_i hm
    cases h
    refine ⟨good_nil, fun h => ?_, fun _ => rfl⟩
    unfold markK at hm
    dsimp only at h
    omega
  split at h
  · split at h
    · cases h
    · rename_i u n hs
      cases h
      exact ⟨strJ_good _ _ (Nat.le_refl _) u n hs, fun h => (by dsimp only at h; omega), fun h => (by dsimp only at h; omega)⟩
  split at h
  · cases h; exact word_ok _ (by decide) alone_true _ _
  split at h
  · cases h; exact word_ok _ (by decide) alone_false _ _
  split at h
  · cases h; exact word_ok _ (by decide) alone_null _ _
  split at h
  · cases h
  · rename_i e he
    cases h
    have h1 := numE_drop l k 0
    rw [Nat.add_zero, he] at h1
    cases h2 : numE (l.drop k) 0 with
    | none => rw [h2] at h1; cases h1
    | some e0 =>
      rw [h2] at h1
      simp only [Option.map_some, Option.some.injEq] at h1
      have hb := numE_bd hk he
      obtain ⟨h3, h4⟩ := num_ok (x := l.drop k) (e := e0) (by rw [List.length_drop]; omega) h2
      have h5 : e - k = e0 := by omega
      refine ⟨by rw [h5]; exact h3, fun _ => by rw [h5]; exact h4, fun h => (by dsimp only at h; omega)⟩
theorem toksF_ok : ∀ (f : Nat) (l : List UInt8) (k : Nat) (ts : List Tok), toksF f l k = some ts → ∀ t ∈ ts, tokOK t ∧ t.text.length ≤ 4 * l.length
  | 0, l, k, ts, h => by unfold toksF at h; cases h; simp
  | f + 1, l, k, ts, h => by
    unfold toksF at h
    split at h
    · cases h; simp
    · split at h
      · exact toksF_ok f l (k + 1) ts h
      · split at h
        · cases h
        · rename_i h1 h2 t ho
          have hb := oneT_bd (by omega) ho
          cases hr : toksF f l t.to with
          | none => rw [hr] at h; cases h
          | some r =>
            rw [hr] at h
            cases h
            intro t' ht'
            rcases List.mem_cons.1 ht' with rfl | h3
            · exact ⟨oneT_ok (by omega) ho, hb.2.2.2.2⟩
            · exact toksF_ok f l t.to r hr t' h3
theorem fitsL_of {ns : List Node} {d : Nat} (h : ∀ n ∈ ns, fitsN n d = true) : fitsL ns d = true :=
  fitsL_at.2 fun j n hj => h n (List.mem_of_getElem? hj)
theorem SmallL_of {ns : List Node} (h : ∀ n ∈ ns, SmallN n) : SmallL ns := by
  induction ns with
  | nil => unfold SmallL; trivial
  | cons m ns ih => unfold SmallL; exact ⟨h m (by simp), ih fun n hn => h n (by simp [hn])⟩
theorem deepL_le {ns : List Node} : ∀ n ∈ ns, deepN n ≤ deepL ns := by
  induction ns with
  | nil => intro n hn; cases hn
  | cons m ns ih =>
    intro n hn
    rw [deepL]
    rcases List.mem_cons.1 hn with rfl | h
    · omega
    · have := ih n h; omega
theorem length_sizeL (ns : List Node) : ns.length ≤ sizeL ns := by
  induction ns with
  | nil => simp [sizeL]
  | cons m ns ih => cases m; simp only [sizeL, sizeN, List.length_cons]; omega
/-- What holds of what was read of a row or a map. -/
structure Good2 (map : Bool) (ks : List (List UInt8)) (ns : List Node) : Prop where
  len : map = true → ks.length = ns.length
  none : map = false → ks = []
  keys : ∀ k ∈ ks, good k = true ∧ k.length ≤ 100000
  kids : ∀ n ∈ ns, SmallN n ∧ ∀ d, d + deepN n ≤ 33 → fitsN n d = true
theorem elems_good {val : Nat → Option (Node × Nat)} {ts : List Tok} {map : Bool} {endk : Nat} (hts : ∀ t ∈ ts, tokOK t ∧ t.text.length ≤ 100000) (hv : ∀ k n k2, val k = some (n, k2) → SmallN n ∧ ∀ d, d + deepN n ≤ 33 → fitsN n d = true) :
    ∀ (g k : Nat) (ks : List (List UInt8)) (ns : List Node) (ks' : List (List UInt8)) (ns' : List Node) (k' : Nat), elems val ts map endk g k ks ns = some (ks', ns', k') → Good2 map ks ns → Good2 map ks' ns'
  | 0, k, ks, ns, ks', ns', k', h, hg => by cases h
  | g + 1, k, ks, ns, ks', ns', k', h, hg => by
    unfold elems at h
    split at h
    · cases h
    · split at h
      · cases h
      · rename_i n k2 hval
        have h1 := hv _ _ _ hval
        have hx : good (txt ts k) = true ∧ (txt ts k).length ≤ 100000 := by
          unfold txt
          cases ht : ts[k]? with
          | none => exact ⟨good_nil, by simp⟩
          | some t => have := hts t (List.mem_of_getElem? ht); exact ⟨this.1.1, this.2⟩
        have hn : Good2 map (if map then ks ++ [txt ts k] else ks) (ns ++ [n]) := by
          refine ⟨fun h => ?_, fun h => ?_, fun u hu => ?_, fun m hm => ?_⟩
          · rw [if_pos h, List.length_append, List.length_append, hg.len h]; rfl
          · rw [h, if_neg (by simp)]; exact hg.none h
          · cases map
            · rw [if_neg (by simp)] at hu; exact hg.keys u hu
            · rw [if_pos rfl] at hu
              rcases List.mem_append.1 hu with h2 | h2
              · exact hg.keys u h2
              · rw [List.mem_singleton.1 h2]; exact hx
          · rcases List.mem_append.1 hm with h2 | h2
            · exact hg.kids m h2
            · rw [List.mem_singleton.1 h2]; exact h1
        split at h
        · simp only [Option.some.injEq, Prod.mk.injEq] at h
          obtain ⟨rfl, rfl, _⟩ := h
          exact hn
        · split at h
          · exact elems_good hts hv g _ _ _ _ _ _ h hn
          · cases h
theorem val_good {ts : List Tok} (hts : ∀ t ∈ ts, tokOK t ∧ t.text.length ≤ 100000) (hl : ts.length ≤ 100000) : ∀ (f k : Nat) (n : Node) (k2 : Nat), valI f ts k = some (n, k2) → SmallN n ∧ ∀ d, d + deepN n ≤ 33 → fitsN n d = true
  | 0, k, n, k2, h => by cases h
  | f + 1, k, n, k2, h => by
    have hsz := valI_size _ _ _ _ _ h
    have hbd := valI_bd _ _ _ _ _ h
    obtain ⟨t, ht, hkind⟩ := valI_head h
    obtain ⟨⟨g1, g2, g3⟩, g4⟩ := hts t (List.mem_of_getElem? ht)
    rw [valI_at ht] at h
    by_cases q1 : t.kind = 34 ∨ t.kind = 48 ∨ t.kind = 97
    · rw [if_pos q1] at h
      cases h
      refine ⟨by unfold SmallN SmallL; exact ⟨g4, fun k hk => (by cases hk), by simp, by simp, trivial⟩, fun d hd => ?_⟩
      simp only [deepN, deepL] at hd
      rw [fitsN, decide_eq_true (by omega : d ≤ 32), g1]
      by_cases q34 : t.kind = 34
      · simp [okK, q34, fitsL]
      · have := g2 (by omega)
        have q2 : t.kind = 48 ∨ t.kind = 97 := by omega
        simp [okK, q34, q2, this, fitsL]
    rw [if_neg q1, if_neg (by omega)] at h
    have htx := g3 (by omega)
    obtain ⟨map, hmap⟩ : ∃ map, decide (t.kind = 123) = map := ⟨_, rfl⟩
    have fin : ∀ (ks : List (List UInt8)) (ns : List Node), Good2 map ks ns → n = .mk t.kind t.text ks ns → SmallN n ∧ ∀ d, d + deepN n ≤ 33 → fitsN n d = true := by
      intro ks ns hg hn
      have hnl : ns.length ≤ 100000 := by
        have := length_sizeL ns
        rw [hn] at hsz
        simp only [sizeN] at hsz
        omega
      have hkl : ks.length ≤ 100000 := by
        cases map
        · rw [hg.none rfl]; simp
        · rw [hg.len rfl]; exact hnl
      rw [hn]
      refine ⟨by unfold SmallN; exact ⟨g4, fun k hk => (hg.keys k hk).2, hkl, hnl, SmallL_of fun m hm => (hg.kids m hm).1⟩, fun d hd => ?_⟩
      rw [deepN] at hd
      have hL : fitsL ns (d + 1) = true := fitsL_of fun m hm => (hg.kids m hm).2 (d + 1) (by have := deepL_le m hm; omega)
      rw [fitsN, decide_eq_true (by omega : d ≤ 32), g1, hL]
      cases map
      · have h91 : t.kind = 91 := by have : t.kind ≠ 123 := by simpa using hmap
                                     omega
        rw [h91, htx, hg.none rfl]; rfl
      · have h123 : t.kind = 123 := by simpa using hmap
        have ha : (ks.all fun k => good k) = true := List.all_eq_true.2 fun k hk => (hg.keys k hk).1
        rw [h123, htx]
        show (true && true && (decide (ks.length = ns.length) && (ks.all fun k => good k) && decide (([] : List UInt8) = [])) && true) = true
        rw [ha, decide_eq_true (hg.len rfl)]; rfl
    have g0 : Good2 map [] [] := ⟨fun _ => rfl, fun _ => rfl, fun k hk => (by cases hk), fun m hm => (by cases hm)⟩
    obtain ⟨E, hE⟩ : ∃ E, (if t.kind = 123 then 125 else 93) = E := ⟨_, rfl⟩
    rw [hE, hmap] at h
    by_cases h3 : isK ts (k + 1) E = true
    · rw [if_pos h3] at h
      simp only [Option.some.injEq, Prod.mk.injEq] at h
      exact fin [] [] g0 h.1.symm
    · rw [if_neg h3] at h
      cases he : elems (fun j => valI f ts j) ts map E ts.length (k + 1) [] [] with
      | none => rw [he] at h; cases h
      | some out =>
        obtain ⟨ks, ns, k3⟩ := out
        rw [he] at h
        simp only [Option.some.injEq, Prod.mk.injEq] at h
        exact fin ks ns (elems_good hts (fun k n k2 h => val_good hts hl f k n k2 h) _ _ _ _ _ _ _ he g0) h.1.symm
/-- What Parse gives may come of Parse. -/
theorem parse_fits {l : List UInt8} {n : Node} (hl : l.length ≤ 25000) (h : parseJ l = .ok n) : SmallN n ∧ fitsN n 1 = true := by
  unfold parseJ at h
  split at h
  · cases h
  · rename_i ts htk
    have hlen := toks_len htk
    have hok := toksF_ok _ _ _ _ htk
    split at h
    · cases h
    · rename_i m k hv
      split at h
      · split at h
        · cases h
        · rename_i h1 h2
          cases h
          obtain ⟨h3, h4⟩ := val_good (fun t ht => ⟨(hok t ht).1, by have := (hok t ht).2; omega⟩) (by omega) _ _ _ _ hv
          exact ⟨h3, h4 1 (by omega)⟩
      · cases h
end Go.Proofs.Ytdfnlcigbmiafaa

/- Walks: the document's Same of two nodes (chapter 10). -/
namespace Go.Proofs.Ytdfnlcigbmiafaa
open Go.RowKit
set_option linter.unusedVariables false
set_option linter.unusedSimpArgs false
mutual
def sameN : Node → Node → Bool
  | .mk q t ks ns, .mk q' t' ks' ns' => decide (q = q') && decide (t = t') && decide (ks = ks') && decide (ns.length = ns'.length) && sameL ns ns'
def sameL : List Node → List Node → Bool
  | [], _ => true
  | _ :: _, [] => true
  | a :: xs, b :: ys => sameN a b && sameL xs ys
end
mutual
theorem sameN_self : ∀ a : Node, sameN a a = true
  | .mk q t ks ns => by rw [sameN, sameL_self ns]; simp
theorem sameL_self : ∀ xs : List Node, sameL xs xs = true
  | [] => rfl
  | a :: xs => by rw [sameL, sameN_self a, sameL_self xs]; rfl
end
theorem sameL_at : ∀ {xs ys : List Node}, sameL xs ys = true ↔ ∀ (j : Nat) (a b : Node), xs[j]? = some a → ys[j]? = some b → sameN a b = true
  | [], ys => by simp [sameL]
  | a :: xs, [] => by simp [sameL]
  | a :: xs, b :: ys => by
    rw [sameL, Bool.and_eq_true, sameL_at (xs := xs) (ys := ys)]
    constructor
    · rintro ⟨h1, h2⟩ j x y hx hy
      cases j with
      | zero => cases hx; cases hy; exact h1
      | succ j => exact h2 j x y hx hy
    · intro h
      exact ⟨h 0 a b rfl rfl, fun j x y hx hy => h (j + 1) x y hx hy⟩
theorem node_drew {w : World} {ok : Nat → Prop} {n : Node} {v : Value} (h : NodeW w ok n v) : NodeW w.drew ok n v := NodeW.mono (w := w) (w' := w.drew) (ok' := ok) (fun g hg hl => ⟨hg, hl, rfl⟩) n v h
theorem cell_lt {w : World} {g o : Nat} {u : Value} (h : w.cell? ⟨g, o, none⟩ = some u) : g < w.heap.size := by
  rcases Nat.lt_or_ge g w.heap.size with h1 | h1
  · exact h1
  · exfalso; simp [World.cell?, Array.getElem?_eq_none h1] at h
theorem below_drewS {w w' : World} (h : Below w.drew.heap.size w.drew w') : Below w.heap.size w w' := ⟨h.os, h.tape, h.output, h.size, h.block⟩
def SamC (a : Node) : Prop := ∀ (b : Node) (ok ok' : Nat → Prop) (a0 a1 a2 a3 b0 b1 b2 b3 : Value) (w : World), NodeW w ok a (.agg #[a0, a1, a2, a3]) → NodeW w ok' b (.agg #[b0, b1, b2, b3]) → SmallN a → SmallN b →
  Calls Try.prog 16 #[.agg #[a0, a1, a2, a3], .agg #[b0, b1, b2, b3]] w fun e w' => e = .returned (.bool (sameN a b)) ∧ Below w.heap.size w w'
set_option maxRecDepth 100000 in
set_option maxHeartbeats 8000000 in
theorem same_one (q : Nat) (t : List UInt8) (ks : List (List UInt8)) (ns : List Node) (hF : ∀ (j : Nat) (n : Node), ns[j]? = some n → SamC n) : SamC (.mk q t ks ns) := by
  intro b ok ok' a0 a1 a2 a3 b0 b1 b2 b3 w ha hb hsa hsb
  obtain ⟨q', t', ks', ns'⟩ := b
  unfold NodeW at ha hb
  obtain ⟨kv, nv, cs, hv, h1, h2, h3⟩ := ha
  simp only [Value.agg.injEq, Array.mk.injEq, List.cons.injEq, and_true] at hv
  obtain ⟨rfl, rfl, rfl, rfl⟩ := hv
  obtain ⟨kv', nv', cs', hv, g1, g2, g3⟩ := hb
  simp only [Value.agg.injEq, Array.mk.injEq, List.cons.injEq, and_true] at hv
  obtain ⟨rfl, rfl, rfl, rfl⟩ := hv
  have hT := TxtR.of h1
  have hT' := TxtR.of g1
  obtain ⟨o1, c1, rfl⟩ := rowW_len h1
  obtain ⟨o2, c2, rfl⟩ := rowW_len h2
  obtain ⟨o3, c3, rfl⟩ := rowW_len g1
  obtain ⟨o4, c4, rfl⟩ := rowW_len g2
  unfold SmallN at hsa hsb
  obtain ⟨_, _, s3, s4, s5⟩ := hsa
  obtain ⟨_, _, s3', s4', s5'⟩ := hsb
  have HV : Hid (sameN (.mk q t ks ns) (.mk q' t' ks' ns') = (decide (q = q') && decide (t = t') && decide (ks = ks') && decide (ns.length = ns'.length) && sameL ns ns')) := by show _ = _; rw [sameN]
  have q1 : ((q : Int) != (q' : Int)) = !decide (q = q') := by
    by_cases h : q = q'
    · simp [h]
    · have : ¬ ((q : Int) = (q' : Int)) := by omega
      simp [h, this]
  have q2 := str_same t t'
  have q3 : ((ns.length : Int) != (ns'.length : Int)) = !decide (ns.length = ns'.length) := by
    by_cases h : ns.length = ns'.length
    · simp [h]
    · have : ¬ ((ns.length : Int) = (ns'.length : Int)) := by omega
      simp [h, this]
  have HSm := Lib.hid (And.intro s5 s5')
  have HF := Lib.hid hF
  have HN0 := Lib.hid ((Blk.new w 34 #[.int .u8 q, .string (strOf t), .slice o1 ks.length c1, .slice o2 ns.length c2]).alloc (.cells #[.int .u8 q', .string (strOf t'), .slice o3 ks'.length c3, .slice o4 ns'.length c4] 34))
  have HM0 : Hid (Blk ((w.alloc (.cells #[.int .u8 q, .string (strOf t), .slice o1 ks.length c1, .slice o2 ns.length c2] 34)).alloc (.cells #[.int .u8 q', .string (strOf t'), .slice o3 ks'.length c3, .slice o4 ns'.length c4] 34)) (w.heap.size + 1) 34 #[.int .u8 q', .string (strOf t'), .slice o3 ks'.length c3, .slice o4 ns'.length c4]) := by
    have := Blk.new (w.alloc (.cells #[.int .u8 q, .string (strOf t), .slice o1 ks.length c1, .slice o2 ns.length c2] 34)) 34 #[.int .u8 q', .string (strOf t'), .slice o3 ks'.length c3, .slice o4 ns'.length c4]
    rwa [World.size_alloc] at this
  have hB0 := ((Below.refl w.heap.size w).alloc (Nat.le_refl _) (.cells #[.int .u8 q, .string (strOf t), .slice o1 ks.length c1, .slice o2 ns.length c2] 34)).alloc (by simp) (.cells #[.int .u8 q', .string (strOf t'), .slice o3 ks'.length c3, .slice o4 ns'.length c4] 34)
  have HSK := Lib.hid (rsame_any ks ks' _ _ _ (txtR_below hT hB0) (txtR_below hT' hB0) (by omega) (by omega))
  have HB0 := Lib.hid hB0
  have HR := Lib.hid h2
  have HKd := Lib.hid h3
  have HR' := Lib.hid g2
  have HKd' := Lib.hid g3
  clear hT hT' hB0 h1 h2 h3 g1 g2 g3 hF s5 s5'
  generalize strOf t = x at *
  generalize strOf t' = y at *
  go_enter Try.func16, Try.ntmps16
  go_upto_region 1 with fail
  generalize (w.alloc (.cells #[.int .u8 q, .string x, .slice o1 ks.length c1, .slice o2 ns.length c2] 34)).alloc (.cells #[.int .u8 q', .string y, .slice o3 ks'.length c3, .slice o4 ns'.length c4] 34) = W0 at *
  have n0 := HN0.out.cell 0
  have n1 := HN0.out.cell 1
  have n2 := HN0.out.cell 2
  have m0 := HM0.out.cell 0
  have m1 := HM0.out.cell 1
  have m2 := HM0.out.cell 2
  generalize decide (q = q') = b1 at *
  generalize decide (t = t') = b2 at *
  generalize decide (ks = ks') = b3 at *
  cases b1
  · go_wp2_with fail
    go_ret
    exact ⟨by rw [HV.out]; rfl, HB0.out⟩
  cases b2
  · go_wp2_with fail
    go_ret
    exact ⟨by rw [HV.out]; rfl, HB0.out⟩
  cases b3
  · go_wp2_with fail
    refine HSK.out.mono ?_
    rintro e w2 ⟨rfl, k2⟩
    go_wp2_with fail
    go_ret
    exact ⟨by rw [HV.out]; rfl, HB0.out.trans (k2.mono HB0.out.size)⟩
  go_wp2_with fail
  refine HSK.out.mono ?_
  rintro e w2 ⟨rfl, k2⟩
  have HN2 := Lib.hid (HN0.out.below k2 HN0.out.lt)
  have HM2 := Lib.hid (HM0.out.below k2 HM0.out.lt)
  have HB2 := Lib.hid (HB0.out.trans (k2.mono HB0.out.size))
  clear n0 n1 n2 m0 m1 m2 HN0 HM0 HB0 HSK k2 q1 q2
  have n3 := HN2.out.cell 3
  have m3 := HM2.out.cell 3
  by_cases hl : ns.length = ns'.length
  · rw [decide_eq_true hl] at q3 HV
    have HV2 : Hid (sameN (.mk q t ks ns) (.mk q' t' ks' ns') = sameL ns ns') := by show _ = _; rw [HV.out]; rfl
    have HLn := Lib.hid hl
    have hN1 := HN2.out.lt
    have hM1 := HM2.out.lt
    clear hl HV
    go_wp2_with fail
    go_loopw [5] (fun z wr => ∃ i : Nat, z = .int .i64 i ∧ i ≤ ns.length ∧ (∀ (j : Nat) (a b : Node), j < i → ns[j]? = some a → ns'[j]? = some b → sameN a b = true) ∧ Below w2.heap.size w2 wr) (fun z _ => ns.length - (intOf z).toNat)
    case atStart => exact ⟨0, rfl, Nat.zero_le _, fun j a b hj => by omega, Below.refl _ _⟩
    case round =>
      obtain ⟨i, rfl, hi, hs, hb⟩ := hrel
      have HS := Lib.hid hs
      have HB := Lib.hid hb
      have HNr := HN2.out.below hb hN1
      have HMr := HM2.out.below hb hM1
      have x3 := HNr.cell 3
      have y3 := HMr.cell 3
      clear n3 m3 hs
      by_cases hlt : i < ns.length
      · obtain ⟨a, ha⟩ : ∃ a, ns[i]? = some a := ⟨_, List.getElem?_eq_getElem hlt⟩
        obtain ⟨b, hb'⟩ : ∃ b, ns'[i]? = some b := ⟨_, List.getElem?_eq_getElem (by have := HLn.out; omega)⟩
        have hbw := HB2.out.trans (hb.mono HB2.out.size)
        obtain ⟨ga, _, e0, e1, e2, e3, hv, p0, p1, p2, p3, hNa⟩ := kid_at HR.out HKd.out ha hbw
        simp only [Value.slice.injEq] at hv
        obtain ⟨rfl, _, rfl⟩ := hv
        obtain ⟨gb, _, f0, f1, f2, f3, hv, r0, r1, r2, r3, hNb⟩ := kid_at HR'.out HKd'.out hb' hbw
        simp only [Value.slice.injEq] at hv
        obtain ⟨rfl, _, rfl⟩ := hv
        have HC := Lib.hid (HF.out i a ha b ok ok' e0 e1 e2 e3 f0 f1 f2 f3 wr.drew (node_drew hNa) (node_drew hNb) (HSm.out.1.at ha) (HSm.out.2.at hb'))
        have HAB := Lib.hid (And.intro ha hb')
        have hli : i < ns'.length := by have := HLn.out; omega
        have K1 : wr.drew.cell? ⟨w.heap.size, 3, none⟩ = some (.slice (some ⟨ga, 0, none⟩) ns.length c2) ∧ wr.drew.cell? ⟨w.heap.size + 1, 3, none⟩ = some (.slice (some ⟨gb, 0, none⟩) ns'.length c4) ∧ wr.drew.cell? ⟨ga, i * 4, none⟩ = some e0 ∧ wr.drew.cell? ⟨ga, i * 4 + 1, none⟩ = some e1 ∧ wr.drew.cell? ⟨ga, i * 4 + 2, none⟩ = some e2 ∧ wr.drew.cell? ⟨ga, i * 4 + 3, none⟩ = some e3 ∧ wr.drew.cell? ⟨gb, i * 4, none⟩ = some f0 ∧ wr.drew.cell? ⟨gb, i * 4 + 1, none⟩ = some f1 ∧ wr.drew.cell? ⟨gb, i * 4 + 2, none⟩ = some f2 ∧ wr.drew.cell? ⟨gb, i * 4 + 3, none⟩ = some f3 := ⟨x3, y3, p0, p1, p2, p3, r0, r1, r2, r3⟩
        have K2 : ∀ w', Below wr.drew.heap.size wr.drew w' → w'.cell? ⟨w.heap.size, 3, none⟩ = some (.slice (some ⟨ga, 0, none⟩) ns.length c2) ∧ w'.cell? ⟨w.heap.size + 1, 3, none⟩ = some (.slice (some ⟨gb, 0, none⟩) ns'.length c4) ∧ w'.cell? ⟨ga, i * 4, none⟩ = some e0 ∧ w'.cell? ⟨ga, i * 4 + 1, none⟩ = some e1 ∧ w'.cell? ⟨ga, i * 4 + 2, none⟩ = some e2 ∧ w'.cell? ⟨ga, i * 4 + 3, none⟩ = some e3 ∧ w'.cell? ⟨gb, i * 4, none⟩ = some f0 ∧ w'.cell? ⟨gb, i * 4 + 1, none⟩ = some f1 ∧ w'.cell? ⟨gb, i * 4 + 2, none⟩ = some f2 ∧ w'.cell? ⟨gb, i * 4 + 3, none⟩ = some f3 := by
          have l1 : ga < wr.heap.size := cell_lt p0
          have l2 : gb < wr.heap.size := cell_lt r0
          have l3 : w.heap.size < wr.heap.size := Nat.lt_of_lt_of_le hN1 hb.size
          have l4 : w.heap.size + 1 < wr.heap.size := Nat.lt_of_lt_of_le hM1 hb.size
          intro w' h
          exact ⟨(h.cell (p := ⟨w.heap.size, 3, none⟩) l3).trans x3, (h.cell (p := ⟨w.heap.size + 1, 3, none⟩) l4).trans y3, (h.cell (p := ⟨ga, i * 4, none⟩) l1).trans p0, (h.cell (p := ⟨ga, i * 4 + 1, none⟩) l1).trans p1, (h.cell (p := ⟨ga, i * 4 + 2, none⟩) l1).trans p2, (h.cell (p := ⟨ga, i * 4 + 3, none⟩) l1).trans p3, (h.cell (p := ⟨gb, i * 4, none⟩) l2).trans r0, (h.cell (p := ⟨gb, i * 4 + 1, none⟩) l2).trans r1, (h.cell (p := ⟨gb, i * 4 + 2, none⟩) l2).trans r2, (h.cell (p := ⟨gb, i * 4 + 3, none⟩) l2).trans r3⟩
        have HK2 := Lib.hid K2
        obtain ⟨rs, hrs⟩ : ∃ rs, sameN a b = rs := ⟨_, rfl⟩
        rw [hrs] at HC
        have HRS := Lib.hid hrs
        clear ha hb' hNa hNb HNr HMr hbw hrs K2 y3 p0 p1 p2 p3 r0 r1 r2 r3 hb
        go_wp2_with fail
        go_region_held3 (fun w' => w'.cell? ⟨w.heap.size, 3, none⟩ = some (.slice (some ⟨ga, 0, none⟩) ns.length c2) ∧ w'.cell? ⟨w.heap.size + 1, 3, none⟩ = some (.slice (some ⟨gb, 0, none⟩) ns'.length c4) ∧ w'.cell? ⟨ga, i * 4, none⟩ = some e0 ∧ w'.cell? ⟨ga, i * 4 + 1, none⟩ = some e1 ∧ w'.cell? ⟨ga, i * 4 + 2, none⟩ = some e2 ∧ w'.cell? ⟨ga, i * 4 + 3, none⟩ = some e3 ∧ w'.cell? ⟨gb, i * 4, none⟩ = some f0 ∧ w'.cell? ⟨gb, i * 4 + 1, none⟩ = some f1 ∧ w'.cell? ⟨gb, i * 4 + 2, none⟩ = some f2 ∧ w'.cell? ⟨gb, i * 4 + 3, none⟩ = some f3) (first | (with_reducible exact K1) | (exact HK2.out _ k5)) ((go_at_call 16; refine HC.out.mono ?_; rintro e w5 ⟨rfl, k5⟩))
        have HB5 := Lib.hid (HB.out.trans (Below.mono (below_drewS k5) HB.out.size))
        cases rs
        · have HE : Hid (sameL ns ns' = false) := by
            show _ = _
            rw [Bool.eq_false_iff]; intro h
            have := sameL_at.1 h i a b HAB.out.1 HAB.out.2
            rw [HRS.out] at this; cases this
          go_wp2_with fail
          go_ret
          exact ⟨by rw [HV2.out, HE.out]; rfl, HB2.out.trans (HB5.out.mono HB2.out.size)⟩
        · go_wp2_with fail
          go_roundw
          case rel =>
            refine ⟨i + 1, by go_num, hlt, fun j a' b' hj h1 h2 => ?_, HB5.out⟩
            rcases Nat.lt_or_ge j i with h | h
            · exact HS.out j a' b' h h1 h2
            · obtain rfl : j = i := by omega
              rw [HAB.out.1] at h1; rw [HAB.out.2] at h2
              cases h1; cases h2; exact HRS.out
          case measure => simp [intOf]; omega
      · have HE : Hid (sameL ns ns' = true) := sameL_at.2 fun j a b hja hjb => HS.out j a b (by have := (List.getElem?_eq_some_iff.1 hja).1; omega) hja hjb
        clear HNr HMr
        go_wp2_with fail
        go_ret
        exact ⟨by rw [HV2.out, HE.out]; rfl, HB2.out.trans (HB.out.mono HB2.out.size)⟩
  · rw [decide_eq_false hl] at q3 HV
    clear hl
    go_wp2_with fail
    go_ret
    exact ⟨by rw [HV.out]; rfl, HB2.out⟩
mutual
theorem same_any : ∀ n : Node, SamC n
  | .mk q t ks ns => same_one q t ks ns fun j n hj => same_all ns j n hj
theorem same_all : ∀ (ns : List Node) (j : Nat) (n : Node), ns[j]? = some n → SamC n
  | [], j, n, h => by simp at h
  | m :: ns, 0, n, h => by
    have h1 : m = n := by simpa using h
    rw [← h1]; exact same_any m
  | m :: ns, j + 1, n, h => same_all ns j n (by simpa using h)
end
end Go.Proofs.Ytdfnlcigbmiafaa

/- Walks: the law WebhookHolds (chapter 37). -/
namespace Go.Proofs.Ytdfnlcigbmiafaa
open Go.RowKit
set_option linter.unusedVariables false
set_option linter.unusedSimpArgs false
set_option linter.constructorNameAsVariable false
theorem txtR_bel {w w' : World} {ks : List (List UInt8)} {v : Value} (h : TxtR w ks v) (hb : Below w.heap.size w w') : TxtR w' ks v := by
  obtain ⟨ao, cap, hv, hc⟩ := h
  exact ⟨ao, cap, hv, fun j u hu => by
    obtain ⟨g, h1, h2, h3⟩ := hc j u hu
    exact ⟨g, h1, Nat.lt_of_lt_of_le h2 hb.size, (hb.cell (p := ⟨g, j, none⟩) h2).trans h3⟩⟩
def keys37 : List (List UInt8) := [tRec, tStat, tBody]
theorem txt_new37 (w : World) : TxtR (w.alloc (.cells #[.string ⟨#[114, 101, 99, 101, 105, 118, 101, 114]⟩, .string ⟨#[115, 116, 97, 116, 117, 115]⟩, .string ⟨#[98, 111, 100, 121]⟩] 9)) keys37 (.slice (some ⟨w.heap.size, 0, none⟩) 3 3) := by
  refine ⟨_, 3, rfl, fun j u hu => ⟨w.heap.size, rfl, by simp, ?_⟩⟩
  rw [(Blk.new w 9 _).cell j]
  match j, hu with
  | 0, hu => cases hu; rfl
  | 1, hu => cases hu; rfl
  | 2, hu => cases hu; rfl
  | j + 3, hu => simp [keys37] at hu
theorem keys_same37 (w : World) (o1 : Option Addr) (c1 : Nat) (h : TxtR w keys37 (.slice o1 3 c1)) :
    Calls Try.prog 15 #[.slice o1 3 c1, .slice (some ⟨w.heap.size, 0, none⟩) 3 3] (w.alloc (.cells #[.string ⟨#[114, 101, 99, 101, 105, 118, 101, 114]⟩, .string ⟨#[115, 116, 97, 116, 117, 115]⟩, .string ⟨#[98, 111, 100, 121]⟩] 9)) fun e w' => e = .returned (.bool true) ∧ Below (w.alloc (.cells #[.string ⟨#[114, 101, 99, 101, 105, 118, 101, 114]⟩, .string ⟨#[115, 116, 97, 116, 117, 115]⟩, .string ⟨#[98, 111, 100, 121]⟩] 9)).heap.size (w.alloc (.cells #[.string ⟨#[114, 101, 99, 101, 105, 118, 101, 114]⟩, .string ⟨#[115, 116, 97, 116, 117, 115]⟩, .string ⟨#[98, 111, 100, 121]⟩] 9)) w' := by
  have h1 := rsame_any keys37 keys37 _ _ _ (txtR_bel h ((Below.refl _ w).alloc (Nat.le_refl _) (.cells #[.string ⟨#[114, 101, 99, 101, 105, 118, 101, 114]⟩, .string ⟨#[115, 116, 97, 116, 117, 115]⟩, .string ⟨#[98, 111, 100, 121]⟩] 9))) (txt_new37 w) (by decide) (by decide)
  rw [show decide (keys37 = keys37) = true from by simp] at h1
  exact h1
theorem same_true37 (n : Node) (ok ok' : Nat → Prop) (a0 a1 a2 a3 b0 b1 b2 b3 : Value) (w : World) (ha : NodeW w ok n (.agg #[a0, a1, a2, a3])) (hb : NodeW w ok' n (.agg #[b0, b1, b2, b3])) (hs : SmallN n) :
    Calls Try.prog 16 #[.agg #[a0, a1, a2, a3], .agg #[b0, b1, b2, b3]] w fun e w' => e = .returned (.bool true) ∧ Below w.heap.size w w' := by
  have h := same_any n n ok ok' _ _ _ _ _ _ _ _ w ha hb hs hs
  rw [sameN_self] at h
  exact h
/-- What lies in memory of a hook that was written and read. -/
structure M1 (f : Bool) (r2 b2 : ByteArray) (n : Node) (o1 : Option Addr) (c1 g c2 : Nat) (k1 : Int) (k2 : ByteArray) (k3 : Option Addr) (k4 k5 : Nat) (k6 : Option Addr) (k7 k8 B0 B1 : Nat) (W : World) : Prop where
  hook : Blk W B0 23 #[.bool f, .string r2, .string b2]
  node : Blk W B1 34 #[.int .u8 123, .string ⟨#[]⟩, .slice o1 3 c1, .slice (some ⟨g, 0, none⟩) 3 c2]
  keys : TxtR W keys37 (.slice o1 3 c1)
  y1 : W.cell? ⟨g, 1, none⟩ = some (.string r2)
  y5 : W.cell? ⟨g, 5, none⟩ = some (.string (wordB f))
  z0 : W.cell? ⟨g, 8, none⟩ = some (.int .u8 k1)
  z1 : W.cell? ⟨g, 9, none⟩ = some (.string k2)
  z2 : W.cell? ⟨g, 10, none⟩ = some (.slice k3 k4 k5)
  z3 : W.cell? ⟨g, 11, none⟩ = some (.slice k6 k7 k8)
  kid : NodeW W (fun g => 0 ≤ g) n (.agg #[.int .u8 k1, .string k2, .slice k3 k4 k5, .slice k6 k7 k8])
theorem M1.bel {f : Bool} {r2 b2 : ByteArray} {n : Node} {o1 : Option Addr} {c1 g c2 : Nat} {k1 : Int} {k2 : ByteArray} {k3 : Option Addr} {k4 k5 : Nat} {k6 : Option Addr} {k7 k8 B0 B1 : Nat} {W W' : World} (h : M1 f r2 b2 n o1 c1 g c2 k1 k2 k3 k4 k5 k6 k7 k8 B0 B1 W) (hb : Below W.heap.size W W') : M1 f r2 b2 n o1 c1 g c2 k1 k2 k3 k4 k5 k6 k7 k8 B0 B1 W' :=
  ⟨h.hook.below hb h.hook.lt, h.node.below hb h.node.lt, txtR_bel h.keys hb, (hb.cell (p := ⟨g, 1, none⟩) (cell_lt37 h.y1)).trans h.y1, (hb.cell (p := ⟨g, 5, none⟩) (cell_lt37 h.y5)).trans h.y5,
    (hb.cell (p := ⟨g, 8, none⟩) (cell_lt37 h.z0)).trans h.z0, (hb.cell (p := ⟨g, 9, none⟩) (cell_lt37 h.z1)).trans h.z1, (hb.cell (p := ⟨g, 10, none⟩) (cell_lt37 h.z2)).trans h.z2, (hb.cell (p := ⟨g, 11, none⟩) (cell_lt37 h.z3)).trans h.z3, h.kid.belowT hb⟩
theorem below_one (w : World) (o : Obj) : Below w.heap.size w (w.alloc o) := (Below.refl _ w).alloc (Nat.le_refl _) o
theorem node_hook {w : World} {B : Nat} {f : Bool} {r : List UInt8} {n : Node} {a b c d : Value} (h : NodeW w (fun g => B ≤ g) (hookN f r n) (.agg #[a, b, c, d])) :
    ∃ (o1 : Option Addr) (c1 g c2 : Nat) (k1 : Int) (k2 : ByteArray) (k3 : Option Addr) (k4 k5 : Nat) (k6 : Option Addr) (k7 k8 : Nat), a = .int .u8 123 ∧ b = .string ⟨#[]⟩ ∧ c = .slice o1 3 c1 ∧ d = .slice (some ⟨g, 0, none⟩) 3 c2 ∧ TxtR w keys37 (.slice o1 3 c1) ∧
      w.cell? ⟨g, 1, none⟩ = some (.string (strOf r)) ∧ w.cell? ⟨g, 5, none⟩ = some (.string (wordB f)) ∧ w.cell? ⟨g, 8, none⟩ = some (.int .u8 k1) ∧ w.cell? ⟨g, 9, none⟩ = some (.string k2) ∧ w.cell? ⟨g, 10, none⟩ = some (.slice k3 k4 k5) ∧ w.cell? ⟨g, 11, none⟩ = some (.slice k6 k7 k8) ∧
      NodeW w (fun g => 0 ≤ g) n (.agg #[.int .u8 k1, .string k2, .slice k3 k4 k5, .slice k6 k7 k8]) := by
  have hw : strOf (wordL f) = wordB f := by cases f <;> rfl
  unfold hookN NodeW at h
  obtain ⟨kv, nv, cs, hv, h3, h4, h5⟩ := h
  have ht := TxtR.of h3
  obtain ⟨o1, c1, rfl⟩ := rowW_len37 h3
  simp only [Value.agg.injEq, Array.mk.injEq, List.cons.injEq, and_true] at hv
  obtain ⟨rfl, rfl, rfl, rfl⟩ := hv
  rcases h4 with ⟨_, h0, _⟩ | ⟨g, c2, hv2, hg, hl, hc⟩
  · cases h0
  obtain ⟨a1, b1, c1', d1, e1, e2, e3, e4, x1⟩ := KidsW.at _ cs 0 _ h5 rfl
  obtain ⟨a2, b2, c2', d2, g1, g2, g3, g4, x2⟩ := KidsW.at _ cs 1 _ h5 rfl
  obtain ⟨a3, b3, c3', d3, i1, i2, i3, i4, x3⟩ := KidsW.at _ cs 2 n h5 rfl
  obtain ⟨k1, k2, k3, k4, k5, k6, k7, k8, rfl, rfl, rfl, rfl⟩ := node_shape x3
  unfold NodeW at x1 x2
  obtain ⟨kv1, nv1, cs1, hv1, _⟩ := x1
  obtain ⟨kv2, nv2, cs2, hv22, _⟩ := x2
  simp only [Value.agg.injEq, Array.mk.injEq, List.cons.injEq, and_true] at hv1 hv22
  obtain ⟨rfl, rfl, rfl, rfl⟩ := hv1
  obtain ⟨rfl, rfl, rfl, rfl⟩ := hv22
  rw [hw] at g2
  exact ⟨o1, c1, g, c2, k1, k2, k3, k4, k5, k6, k7, k8, rfl, rfl, rfl, hv2, ht, hc _ _ e2, hc _ _ g2, hc _ _ i1, hc _ _ i2, hc _ _ i3, hc _ _ i4, NodeW.mono (fun g hg hl => ⟨Nat.zero_le _, hl, rfl⟩) n _ x3⟩
set_option maxRecDepth 100000 in
set_option maxHeartbeats 8000000 in
theorem lawHolds37 (f : Bool) (r b : ByteArray) (w : World) (hr : r.size ≤ 9223372036854775807) (hb : b.size ≤ 9223372036854775807) (hm : MaxC w) :
    Calls Try.prog 6 #[.agg #[.bool f, .string r, .string b]] w fun e w' => e = .returned (.bool true) ∧ Below w.heap.size w w' := by
  have HS := Lib.hid (fun w => short37_any f r b w hr hb)
  have z1 := cut37_size 120 r
  have z2 := cut37_size 250 b
  generalize cut37 120 r = r2 at *
  generalize cut37 250 b = b2 at *
  have hl1 := sz_len r2
  have hl2 := sz_len b2
  have HP := Lib.hid (fun w => wbuild_any f r2 b2 w (by omega) (by omega))
  have HA := Lib.hid awake37_any
  have hw0 : 0 < w.heap.size := by obtain ⟨m, h⟩ := hm; exact cell_lt37 h
  have HMW := Lib.hid hm
  have hcase : (hookE r2.data.toList b2.data.toList ≠ 0 ∧ hookT f r2.data.toList b2.data.toList = ⟨#[]⟩) ∨ (hookE r2.data.toList b2.data.toList = 0 ∧ ∃ n : Node, SmallN n ∧
      (∀ w, Calls Try.prog 12 #[.string (hookT f r2.data.toList b2.data.toList)] w fun e w' => (∃ va vb vc vd : Value, e = .returned (.tuple #[.agg #[va, vb, vc, vd], .int .i64 0]) ∧ NodeW w' (fun g => w.heap.size ≤ g) (hookN f r2.data.toList n) (.agg #[va, vb, vc, vd])) ∧ Below w.heap.size w w') ∧
      (∀ w, Calls Try.prog 12 #[.string b2] w fun e w' => (∃ va vb vc vd : Value, e = .returned (.tuple #[.agg #[va, vb, vc, vd], .int .i64 0]) ∧ NodeW w' (fun g => w.heap.size ≤ g) n (.agg #[va, vb, vc, vd])) ∧ Below w.heap.size w w') ∧
      (∀ w, MaxC w → Calls Try.prog 13 #[.string (hookT f r2.data.toList b2.data.toList)] w fun e w' => e = .returned (.tuple #[.agg #[.bool f, .string r2, .string b2], .int .i64 0]) ∧ Below w.heap.size w w')) := by
    by_cases hE : hookE r2.data.toList b2.data.toList = 0
    · right
      refine ⟨hE, ?_⟩
      obtain ⟨n, _, hn, _⟩ := parse_two b2.data.toList
      have hcl := hookE_clean hE
      have hok : parseJ b2.data.toList = .ok n ∧ deepN n < 32 := by
        rcases hook_cases _ _ n hn with x | x | x | x | x
        · exact absurd hcl x.1
        · rw [hE] at x; exact absurd x.2.2 (by decide)
        · rw [hE] at x; exact absurd x.2.2.2 (by decide)
        · rw [hE] at x; exact absurd x.2.2.2.2 (by decide)
        · exact ⟨hn x.2.1, x.2.2.1⟩
      have hp := hook_parse f hcl hok.1 hok.2
      have hwl := write_length r2.data.toList
      have hln : (hookL f r2.data.toList b2.data.toList).length ≤ 2000 := by
        unfold hookL
        have : (wordL f).length ≤ 8 := by cases f <;> decide
        simp only [List.length_append, show opensL.length = 13 from rfl, show statL.length = 12 from rfl, show bodyL.length = 9 from rfl, List.length_singleton]
        omega
      rw [hookT_ok hE]
      refine ⟨n, (parse_fits (by omega) hok.1).1, fun w => ?_, fun w => ?_, fun w hm => ?_⟩
      · refine (rparse_any (strOf (hookL f r2.data.toList b2.data.toList)) w (by rw [strOf_size]; omega)).mono fun e w' h => ⟨?_, h.2⟩
        have h1 := h.1
        rw [strOf_list, hp] at h1
        exact h1
      · refine (rparse_any b2 w (by omega)).mono fun e w' h => ⟨?_, h.2⟩
        have h1 := h.1
        rw [hok.1] at h1
        exact h1
      · have h1 := wread_any (strOf (hookL f r2.data.toList b2.data.toList)) w (by rw [strOf_size]; omega) hm
        rw [strOf_list, readP_back hE] at h1
        have e : readV37 (some (f, r2.data.toList, b2.data.toList)) = .tuple #[.agg #[.bool f, .string r2, .string b2], .int .i64 0] := by
          show Value.tuple #[.agg #[.bool f, .string (strOf r2.data.toList), .string (strOf b2.data.toList)], .int .i64 0] = _
          rw [strOf_data, strOf_data]
        rw [e] at h1
        exact h1
    · exact .inl ⟨hE, hookT_no hE⟩
  have hrr : strOf r2.data.toList = r2 := strOf_data r2
  generalize hookT f r2.data.toList b2.data.toList = X at *
  generalize hookE r2.data.toList b2.data.toList = E at *
  have HX1 := Lib.hid (Blk.new w 23 #[.bool f, .string r, .string b])
  have HB1 := Lib.hid ((Below.refl w.heap.size w).alloc (Nat.le_refl _) (.cells #[.bool f, .string r, .string b] 23))
  clear hl1 hl2 hm
  go_enter Try.func6, Try.ntmps6
  go_upto_region 1 with fail
  generalize hW : w.alloc (.cells #[.bool f, .string r, .string b] 23) = W1 at *
  clear hW
  have x0 := HX1.out.cell 0
  have x1 := HX1.out.cell 1
  have x2 := HX1.out.cell 2
  go_wp2_with fail
  refine (HS.out _).mono ?_
  rintro e w2 ⟨rfl, k2⟩
  have HX2 := Lib.hid (HX1.out.below k2 HX1.out.lt)
  have HB2 := Lib.hid (HB1.out.trans (k2.mono HB1.out.size))
  clear x0 x1 x2 k2 HX1 HB1
  have x0 := HX2.out.cell 0
  have x1 := HX2.out.cell 1
  have x2 := HX2.out.cell 2
  have f0 := HX2.out.frozen 0
  have f1 := HX2.out.frozen 1
  have f2 := HX2.out.frozen 2
  have HX3 := Lib.hid (((HX2.out.set_ 0 (.bool f)).set_ 1 (.string r2)).set_ 2 (.string b2))
  have HB3 := Lib.hid (((HB2.out.setCell (p := ⟨w.heap.size, 0, none⟩) (Nat.le_refl _) (.bool f)).setCell (p := ⟨w.heap.size, 1, none⟩) (Nat.le_refl _) (.string r2)).setCell (p := ⟨w.heap.size, 2, none⟩) (Nat.le_refl _) (.string b2))
  clear HX2 HB2
  go_upto_region 2 with fail
  clear x0 x1 x2 f0 f1 f2
  generalize hW : ((w2.setCell ⟨w.heap.size, 0, none⟩ (.bool f)).setCell ⟨w.heap.size, 1, none⟩ (.string r2)).setCell ⟨w.heap.size, 2, none⟩ (.string b2) = W3 at *
  clear hW
  have x0 := HX3.out.cell 0
  have x1 := HX3.out.cell 1
  have x2 := HX3.out.cell 2
  go_wp2_with fail
  refine (HP.out _).mono ?_
  rintro e w4 ⟨rfl, k4⟩
  have HX4 := Lib.hid (HX3.out.below k4 HX3.out.lt)
  have HB4 := Lib.hid (HB3.out.trans (k4.mono HB3.out.size))
  clear x0 x1 x2 k4 HX3 HB3 HP HS
  rcases hcase with ⟨hE, rfl⟩ | ⟨rfl, n, hsm, hP1, hP2, hRd⟩
  · have qE : (E != 0) = true := by simpa [bne_iff_ne] using hE
    clear hE
    go_wp2_with fail
    refine (HA.out _).mono ?_
    rintro e w7 ⟨rfl, k7⟩
    go_wp2_with fail
    go_ret
    exact ⟨rfl, HB4.out.trans (k7.mono HB4.out.size)⟩
  · have HSM := Lib.hid hsm
    have HP1 := Lib.hid hP1
    have HP2 := Lib.hid hP2
    have HRd := Lib.hid hRd
    clear hsm hP1 hP2 hRd
    go_wp2_with fail
    refine (HP1.out _).mono ?_
    rintro e w5 ⟨⟨va, vb, vc, vd, rfl, hn5⟩, q5⟩
    obtain ⟨o1, c1, g, c2, k1, k2, k3, k4, k5, k6, k7, k8, rfl, rfl, rfl, rfl, ht, y1, y5, z0, z1', z2', z3, hkid⟩ := node_hook hn5
    rw [hrr] at y1
    have hb5 := below_one w5 (.cells #[.int .u8 123, .string ⟨#[]⟩, .slice o1 3 c1, .slice (some ⟨g, 0, none⟩) 3 c2] 34)
    have HM5 : Hid (M1 f r2 b2 n o1 c1 g c2 k1 k2 k3 k4 k5 k6 k7 k8 w.heap.size w5.heap.size (w5.alloc (.cells #[.int .u8 123, .string ⟨#[]⟩, .slice o1 3 c1, .slice (some ⟨g, 0, none⟩) 3 c2] 34))) :=
      ⟨(HX4.out.below q5 HX4.out.lt).alloc _, Blk.new w5 _ _, txtR_bel ht hb5, (hb5.cell (p := ⟨g, 1, none⟩) (cell_lt37 y1)).trans y1, (hb5.cell (p := ⟨g, 5, none⟩) (cell_lt37 y5)).trans y5, (hb5.cell (p := ⟨g, 8, none⟩) (cell_lt37 z0)).trans z0, (hb5.cell (p := ⟨g, 9, none⟩) (cell_lt37 z1')).trans z1', (hb5.cell (p := ⟨g, 10, none⟩) (cell_lt37 z2')).trans z2', (hb5.cell (p := ⟨g, 11, none⟩) (cell_lt37 z3)).trans z3, hkid.belowT hb5⟩
    have HB5 := Lib.hid ((HB4.out.trans (q5.mono HB4.out.size)).alloc (HB4.out.trans (q5.mono HB4.out.size)).size (.cells #[.int .u8 123, .string ⟨#[]⟩, .slice o1 3 c1, .slice (some ⟨g, 0, none⟩) 3 c2] 34))
    clear HX4 HB4 hn5 q5 ht y1 y5 z0 z1' z2' z3 hkid hb5 HP1
    go_upto_region 6 with fail
    generalize hBB : w5.heap.size = B1 at *
    generalize hW : w5.alloc (.cells #[.int .u8 123, .string ⟨#[]⟩, .slice o1 3 c1, .slice (some ⟨g, 0, none⟩) 3 c2] 34) = W6 at *
    clear hW hBB
    have x2 := HM5.out.hook.cell 2
    go_wp2_with fail
    refine (HP2.out _).mono ?_
    rintro e w7 ⟨⟨va, vb, vc, vd, rfl, hn7⟩, q7⟩
    obtain ⟨v1, v2, v3, v4, v5, v6, v7, v8, rfl, rfl, rfl, rfl⟩ := node_shape hn7
    have hb7 := below_one w7 (.cells #[.int .u8 v1, .string v2, .slice v3 v4 v5, .slice v6 v7 v8] 34)
    have HM7 := Lib.hid ((HM5.out.bel q7).bel hb7)
    have HN7 := Lib.hid (Blk.new w7 34 #[.int .u8 v1, .string v2, .slice v3 v4 v5, .slice v6 v7 v8])
    have HK7 : Hid (NodeW (w7.alloc (.cells #[.int .u8 v1, .string v2, .slice v3 v4 v5, .slice v6 v7 v8] 34)) (fun g => 0 ≤ g) n (.agg #[.int .u8 v1, .string v2, .slice v3 v4 v5, .slice v6 v7 v8])) := NodeW.mono (fun g hg hl => ⟨Nat.zero_le _, Nat.lt_of_lt_of_le hl hb7.size, hb7.block g hl⟩) n _ hn7
    have HB7 := Lib.hid ((HB5.out.trans (q7.mono HB5.out.size)).alloc (HB5.out.trans (q7.mono HB5.out.size)).size (.cells #[.int .u8 v1, .string v2, .slice v3 v4 v5, .slice v6 v7 v8] 34))
    clear HM5 HB5 hn7 q7 x2 hb7 HP2
    go_upto_region 7 with fail
    generalize hBB : w7.heap.size = B2 at *
    generalize hW : w7.alloc (.cells #[.int .u8 v1, .string v2, .slice v3 v4 v5, .slice v6 v7 v8] 34) = W8 at *
    clear hW hBB
    have HMX := Lib.hid (HMW.out.bel HB7.out hw0)
    go_wp2_with fail
    refine (HRd.out _ HMX.out).mono ?_
    rintro e w9 ⟨rfl, q9⟩
    have hb9 := below_one w9 (.cells #[.bool f, .string r2, .string b2] 23)
    have HM9 := Lib.hid ((HM7.out.bel q9).bel hb9)
    have HN9 := Lib.hid ((HN7.out.below q9 HN7.out.lt).alloc (.cells #[.bool f, .string r2, .string b2] 23))
    have HK9 := Lib.hid ((HK7.out.belowT q9).belowT hb9)
    have HH9 := Lib.hid (Blk.new w9 23 #[.bool f, .string r2, .string b2])
    have HB9 := Lib.hid ((HB7.out.trans (q9.mono HB7.out.size)).alloc (HB7.out.trans (q9.mono HB7.out.size)).size (.cells #[.bool f, .string r2, .string b2] 23))
    clear HM7 HB7 HN7 HK7 q9 hb9 HMX HRd HMW
    go_upto_region 8 with fail
    generalize hBB : w9.heap.size = B3 at *
    generalize hW : w9.alloc (.cells #[.bool f, .string r2, .string b2] 23) = W10 at *
    clear hW hBB
    have x0 := HM9.out.hook.cell 0
    have x1 := HM9.out.hook.cell 1
    have x2 := HM9.out.hook.cell 2
    have h0 := HH9.out.cell 0
    have h1 := HH9.out.cell 1
    have h2 := HH9.out.cell 2
    have n0 := HM9.out.node.cell 0
    have n2 := HM9.out.node.cell 2
    have qR : (r2.toList == r2.toList) = true := by simp
    have qB : (b2.toList == b2.toList) = true := by simp
    go_wp2_with fail
    refine (keys_same37 W10 o1 c1 HM9.out.keys).mono ?_
    rintro e w11 ⟨rfl, q11⟩
    have hbk := below_one W10 (.cells #[.string ⟨#[114, 101, 99, 101, 105, 118, 101, 114]⟩, .string ⟨#[115, 116, 97, 116, 117, 115]⟩, .string ⟨#[98, 111, 100, 121]⟩] 9)
    have HM11 := Lib.hid ((HM9.out.bel hbk).bel q11)
    have HN11 := Lib.hid ((HN9.out.alloc (.cells #[.string ⟨#[114, 101, 99, 101, 105, 118, 101, 114]⟩, .string ⟨#[115, 116, 97, 116, 117, 115]⟩, .string ⟨#[98, 111, 100, 121]⟩] 9)).below q11 (HN9.out.alloc (.cells #[.string ⟨#[114, 101, 99, 101, 105, 118, 101, 114]⟩, .string ⟨#[115, 116, 97, 116, 117, 115]⟩, .string ⟨#[98, 111, 100, 121]⟩] 9)).lt)
    have HK11 := Lib.hid ((HK9.out.belowT hbk).belowT q11)
    have HB11 := Lib.hid ((HB9.out.trans (hbk.mono HB9.out.size)).trans (q11.mono (HB9.out.trans (hbk.mono HB9.out.size)).size))
    clear HM9 HN9 HK9 HB9 HH9 q11 hbk x0 x1 x2 h0 h1 h2 n0 n2 qB
    have HSm : Hid (∀ w', Below w11.heap.size w11 w' → Calls Try.prog 16 #[.agg #[.int .u8 k1, .string k2, .slice k3 k4 k5, .slice k6 k7 k8], .agg #[.int .u8 v1, .string v2, .slice v3 v4 v5, .slice v6 v7 v8]] w' fun e w'' => e = .returned (.bool true) ∧ Below w'.heap.size w' w'') :=
      fun w' h => same_true37 n _ _ _ _ _ _ _ _ _ _ w' (HM11.out.kid.belowT h) (HK11.out.belowT h) HSM.out
    obtain ⟨Wf, hWf⟩ : ∃ Wf, wordB f = Wf := ⟨_, rfl⟩
    have K : Hid (∀ w', Below w11.heap.size w11 w' → (w'.cell? ⟨B1, 3, none⟩ = some (.slice (some ⟨g, 0, none⟩) 3 c2) ∧ w'.cell? ⟨g, 1, none⟩ = some (.string r2) ∧ w'.cell? ⟨w.heap.size, 1, none⟩ = some (.string r2) ∧ w'.cell? ⟨g, 5, none⟩ = some (.string Wf) ∧ w'.cell? ⟨g, 8, none⟩ = some (.int .u8 k1) ∧ w'.cell? ⟨g, 9, none⟩ = some (.string k2) ∧ w'.cell? ⟨g, 10, none⟩ = some (.slice k3 k4 k5) ∧ w'.cell? ⟨g, 11, none⟩ = some (.slice k6 k7 k8) ∧ w'.cell? ⟨B2, 0, none⟩ = some (.int .u8 v1) ∧ w'.cell? ⟨B2, 1, none⟩ = some (.string v2) ∧ w'.cell? ⟨B2, 2, none⟩ = some (.slice v3 v4 v5) ∧ w'.cell? ⟨B2, 3, none⟩ = some (.slice v6 v7 v8))) := by
      intro w' h
      have m := HM11.out.bel h
      have m2 := HN11.out.below h HN11.out.lt
      exact ⟨m.node.cell 3, m.y1, m.hook.cell 1, by rw [← hWf]; exact m.y5, m.z0, m.z1, m.z2, m.z3, m2.cell 0, m2.cell 1, m2.cell 2, m2.cell 3⟩
    have x0 := HM11.out.hook.cell 0
    have qW : (f = true → (Wf.toList == [102, 105, 114, 105, 110, 103]) = true) ∧ (f = false → (Wf.toList == [114, 101, 115, 111, 108, 118, 101, 100]) = true) := by
      rw [← hWf]
      cases f
      · exact ⟨fun h => (by cases h), fun _ => (by rw [ByteArray.toList_eq]; rfl)⟩
      · exact ⟨fun _ => (by rw [ByteArray.toList_eq]; rfl), fun h => (by cases h)⟩
    clear hWf HM11 HN11 HK11 HSM
    cases f
    · have qW2 := qW.2 rfl
      clear qW
      go_upto_region 13 with fail
      clear x0
      go_region_held3 (fun w' => (w'.cell? ⟨B1, 3, none⟩ = some (.slice (some ⟨g, 0, none⟩) 3 c2) ∧ w'.cell? ⟨g, 1, none⟩ = some (.string r2) ∧ w'.cell? ⟨w.heap.size, 1, none⟩ = some (.string r2) ∧ w'.cell? ⟨g, 5, none⟩ = some (.string Wf) ∧ w'.cell? ⟨g, 8, none⟩ = some (.int .u8 k1) ∧ w'.cell? ⟨g, 9, none⟩ = some (.string k2) ∧ w'.cell? ⟨g, 10, none⟩ = some (.slice k3 k4 k5) ∧ w'.cell? ⟨g, 11, none⟩ = some (.slice k6 k7 k8) ∧ w'.cell? ⟨B2, 0, none⟩ = some (.int .u8 v1) ∧ w'.cell? ⟨B2, 1, none⟩ = some (.string v2) ∧ w'.cell? ⟨B2, 2, none⟩ = some (.slice v3 v4 v5) ∧ w'.cell? ⟨B2, 3, none⟩ = some (.slice v6 v7 v8))) (first | (exact K.out _ (Below.refl _ _)) | (exact K.out _ (below_drewU (Below.refl _ _))) | (exact K.out _ (below_drewT b12)) | (exact K.out _ ((below_drewT b12).trans (b13.mono (below_drewT b12).size)))) (first | (go_at_call 16; refine (HSm.out _ (below_drewU (Below.refl _ _))).mono ?_; rintro e w12 ⟨rfl, b12⟩) | (go_at_call 11; refine (HA.out _).mono ?_; rintro e w13 ⟨rfl, b13⟩))
      go_wp2_with fail
      go_ret
      exact ⟨rfl, HB11.out.trans (((below_drewT b12).trans (b13.mono (below_drewT b12).size)).mono HB11.out.size)⟩
    · have qW2 := qW.1 rfl
      clear qW
      go_upto_region 13 with fail
      clear x0
      go_region_held3 (fun w' => (w'.cell? ⟨B1, 3, none⟩ = some (.slice (some ⟨g, 0, none⟩) 3 c2) ∧ w'.cell? ⟨g, 1, none⟩ = some (.string r2) ∧ w'.cell? ⟨w.heap.size, 1, none⟩ = some (.string r2) ∧ w'.cell? ⟨g, 5, none⟩ = some (.string Wf) ∧ w'.cell? ⟨g, 8, none⟩ = some (.int .u8 k1) ∧ w'.cell? ⟨g, 9, none⟩ = some (.string k2) ∧ w'.cell? ⟨g, 10, none⟩ = some (.slice k3 k4 k5) ∧ w'.cell? ⟨g, 11, none⟩ = some (.slice k6 k7 k8) ∧ w'.cell? ⟨B2, 0, none⟩ = some (.int .u8 v1) ∧ w'.cell? ⟨B2, 1, none⟩ = some (.string v2) ∧ w'.cell? ⟨B2, 2, none⟩ = some (.slice v3 v4 v5) ∧ w'.cell? ⟨B2, 3, none⟩ = some (.slice v6 v7 v8))) (first | (exact K.out _ (Below.refl _ _)) | (exact K.out _ (below_drewU (Below.refl _ _))) | (exact K.out _ (below_drewT b12)) | (exact K.out _ ((below_drewT b12).trans (b13.mono (below_drewT b12).size)))) (first | (go_at_call 16; refine (HSm.out _ (below_drewU (Below.refl _ _))).mono ?_; rintro e w12 ⟨rfl, b12⟩) | (go_at_call 11; refine (HA.out _).mono ?_; rintro e w13 ⟨rfl, b13⟩))
      go_wp2_with fail
      go_ret
      exact ⟨rfl, HB11.out.trans (((below_drewT b12).trans (b13.mono (below_drewT b12).size)).mono HB11.out.size)⟩
end Go.Proofs.Ytdfnlcigbmiafaa
