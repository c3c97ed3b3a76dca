/- Walks: what nobody made finds nothing (chapter 03, FindNobody). -/
import Derived.Test.YtpjlkhdolhoeoaaFdAwk
namespace Go.Proofs.Ytpjlkhdolhoeoaa
open Go.Shelf Go.RowKit Go.Lib Go.Maps
set_option linter.unusedVariables false
set_option linter.unusedSimpArgs false
theorem strOf_take (s : Bs) (n : Nat) (h : n ≤ s.length) : (strOf s).extract 0 n = strOf (s.take n) := by
  apply ByteArray.ext
  simp [strOf, ByteArray.extract, ByteArray.copySlice]
set_option maxRecDepth 100000 in
theorem fshort (s : Bs) (hs : s.length ≤ 9223372036854775807) (w : World) : Calls Try.prog 12 #[.string (strOf s)] w fun e w' => e = .returned (.string (strOf (s.take 120))) ∧ w = w' := by
  have hsz := strOf_size s
  by_cases h : s.length ≤ 120
  · have e : (strOf s).extract 0 s.length = strOf (s.take 120) := by rw [strOf_take s _ (Nat.le_refl _), List.take_length, List.take_of_length_le h]
    have hm : min (s.length : Int) 120 = (s.length : Int) := by omega
    have h0 : (0 : Int) ≤ (s.length : Int) := by omega
    go_enter Try.func12, Try.ntmps12
    go_wp2_with fail
    go_ret
    exact ⟨by rw [← e]; rfl, rfl⟩
  · have e := strOf_take s 120 (by omega)
    have hm : min (s.length : Int) 120 = 120 := by omega
    have h0 : (120 : Int) ≤ (s.length : Int) := by omega
    have h1 : 120 ≤ s.length := by omega
    go_enter Try.func12, Try.ntmps12
    go_wp2_with fail
    go_ret
    exact ⟨by rw [← e]; rfl, rfl⟩
theorem rel_bel {A W : World} {f : FuncId} {args : Array Value} {r : Value} (hb : Below A.heap.size A W) (h : Calls Try.prog f args W fun e w' => e = .returned r ∧ Below W.heap.size W w') : Calls Try.prog f args W fun e w' => e = .returned r ∧ Below A.heap.size A w' :=
  h.mono fun _ _ ⟨h1, h2⟩ => ⟨h1, hb.trans (h2.mono hb.size)⟩
theorem below_al1 {A W : World} (hb : Below A.heap.size A W) (o : Obj) : Below A.heap.size A (W.alloc o) := hb.alloc hb.size o
set_option maxRecDepth 100000 in
set_option maxHeartbeats 4000000 in
theorem fnobody (s : Bs) (hs : s.length ≤ 9223372036854775807) (f : Int) (by_ : UInt8) (w : World) :
    Calls Try.prog 6 #[.string (strOf s), .int .i64 f, .int .u8 (by_.toNat : Int)] w fun e w' => e = .returned (.bool true) ∧ Below w.heap.size w w' := by
  have HS := Lib.hid (fshort s hs w)
  generalize s.take 120 = x at HS
  have hA := (Below.refl w.heap.size w).alloc (Nat.le_refl _) (.cells #[.slice none 0 0, .slice none 0 0, .map none] 55)
  have hx := Blk.new w 55 #[.slice none 0 0, .slice none 0 0, .map none]
  go_enter Try.func6, Try.ntmps6
  go_upto_region 4 with (go_at_call 12; refine HS.out.mono ?_; rintro e w1 ⟨rfl, rfl⟩)
  generalize w.alloc (.cells #[.slice none 0 0, .slice none 0 0, .map none] 55) = A at hA hx ⊢
  have HO := Lib.hid (fun W (hb : Below A.heap.size A W) => (show NoM A (.pointer (some ⟨w.heap.size, 0, none⟩)) from .inr ⟨_, rfl, hx.cell 1⟩).keep hb)
  have HA := Lib.hid hA
  have hr0 := Below.refl A.heap.size A
  clear hA hx HS
  have H4 := Lib.hid (rel_bel hr0 (ffirstNo (w := A) (p := .pointer none) (.inl rfl) (strOf x) f))
  clear hr0
  go_upto_region 5 with (go_at_call 19; refine H4.out.mono ?_; rintro e w4 ⟨rfl, hb4⟩; have HB4 := Lib.hid hb4; clear hb4)
  have k9 := Blk.new w4 45 #[.int .i64 0, .int .i64 0]
  have hb5 := below_al1 HB4.out (.cells #[.int .i64 0, .int .i64 0] 45)
  generalize w4.alloc (.cells #[.int .i64 0, .int .i64 0] 45) = w5 at k9 hb5 ⊢
  have H5 := Lib.hid (ffirstNo (HO.out w5 hb5) (strOf x) f)
  have HK9 := Lib.hid (And.intro k9 hb5)
  clear k9 hb5
  go_upto_region 6 with (go_at_call 19; refine H5.out.mono ?_; rintro e w6 ⟨rfl, hb6⟩; have HB6 := Lib.hid hb6; clear hb6)
  have k11 := Blk.new w6 45 #[.int .i64 0, .int .i64 0]
  have k9 := (HK9.out.1.below HB6.out HK9.out.1.lt).alloc (.cells #[.int .i64 0, .int .i64 0] 45)
  have hb7 := below_al1 (HK9.out.2.trans (HB6.out.mono HK9.out.2.size)) (.cells #[.int .i64 0, .int .i64 0] 45)
  generalize w6.alloc (.cells #[.int .i64 0, .int .i64 0] 45) = C at k9 k11 hb7 ⊢
  have HP := Lib.hid (fun W (hb : Below C.heap.size C W) => (HO.out C hb7).keep hb)
  have HKK := Lib.hid (And.intro k9 (And.intro k11 hb7))
  have HB7 := Lib.hid (fblotNo (w := C) (p := .pointer none) (.inl rfl) x by_)
  clear k9 k11 hb7
  go_upto_region 7 with (go_at_call 13; refine HB7.out.mono ?_; rintro e w8 ⟨rfl, hb8⟩; have HB8 := Lib.hid hb8; clear hb8)
  have H8 := Lib.hid (rel_bel HB8.out (fblotNo (HP.out w8 HB8.out) x by_))
  go_upto_region 8 with (go_at_call 13; refine H8.out.mono ?_; rintro e w9 ⟨rfl, hb9⟩; have HB9 := Lib.hid hb9; clear hb9)
  have L1 := Lib.hid (fun W => flenNo (w := W) (p := .pointer none) (.inl rfl))
  have L2 := Lib.hid (fun W (hb : Below C.heap.size C W) => flenNo (HP.out W hb))
  have T1 := Lib.hid (fun W (hb : Below C.heap.size C W) => rel_bel hb (fhitsNo (w := W) (p := .pointer none) (.inl rfl) (strOf x)))
  have T2 := Lib.hid (fun W (hb : Below C.heap.size C W) => rel_bel hb (fhitsNo (HP.out W hb) (strOf x)))
  have U1 := Lib.hid (fun W (hb : Below C.heap.size C W) => rel_bel hb (fhasNo (w := W) (p := .pointer none) (.inl rfl) (strOf x)))
  have U2 := Lib.hid (fun W (hb : Below C.heap.size C W) => rel_bel hb (fhasNo (HP.out W hb) (strOf x)))
  have AW := Lib.hid (fun W (hb : Below C.heap.size C W) => rel_bel hb (fawake W))
  have CE := Lib.hid (fun W (hb : Below C.heap.size C W) => And.intro ((HKK.out.1.below hb HKK.out.1.lt).cell 0) (And.intro ((HKK.out.1.below hb HKK.out.1.lt).cell 1) (And.intro ((HKK.out.2.1.below hb HKK.out.2.1.lt).cell 0) ((HKK.out.2.1.below hb HKK.out.2.1.lt).cell 1))))
  have hb9 := HB9.out
  go_wp2_with (first
    | (go_at_call 16; with_reducible refine (L1.out _).mono ?_; rintro e wn ⟨rfl, rfl⟩)
    | (go_at_call 16; with_reducible refine (L2.out _ (by assumption)).mono ?_; rintro e wn ⟨rfl, rfl⟩)
    | (go_at_call 17; with_reducible refine (T1.out _ (by assumption)).mono ?_; rintro e wn ⟨rfl, hbn⟩)
    | (go_at_call 17; with_reducible refine (T2.out _ (by assumption)).mono ?_; rintro e wn ⟨rfl, hbn⟩)
    | (go_at_call 15; with_reducible refine (U1.out _ (by assumption)).mono ?_; rintro e wn ⟨rfl, hbn⟩)
    | (go_at_call 15; with_reducible refine (U2.out _ (by assumption)).mono ?_; rintro e wn ⟨rfl, hbn⟩; obtain ⟨ce0, ce1, ce2, ce3⟩ := CE.out _ hbn)
    | (go_at_call 10; refine (AW.out _ (by assumption)).mono ?_; rintro e wn ⟨rfl, hbn⟩; have HE := Lib.hid hbn))
  go_ret
  exact ⟨rfl, (HA.out.trans (HKK.out.2.2.mono HA.out.size)).trans (HE.out.mono (HA.out.trans (HKK.out.2.2.mono HA.out.size)).size)⟩
end Go.Proofs.Ytpjlkhdolhoeoaa
