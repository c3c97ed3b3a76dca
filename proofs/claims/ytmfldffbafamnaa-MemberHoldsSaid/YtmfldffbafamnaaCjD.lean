/- Walks: an escape, behind a byte. -/
import Derived.Test.YtmfldffbafamnaaCjC
import Derived.Laws.BytesArg
namespace Go.Proofs.Ytmfldffbafamnaa
open Go.RowKit
set_option linter.unusedVariables false
set_option linter.unusedSimpArgs false
theorem conv_newc (w : World) (xs : List Int) (n : Nat) (hn : xs.length = n) :
    (convert 33 9 (.slice (some ⟨w.heap.size, 0, none⟩) n n)).run Try.prog (w.alloc (.cells (xs.map (Value.int .u8)).toArray 5)) =
      .ok (.string (strOfNums xs)) (w.alloc (.cells (xs.map (Value.int .u8)).toArray 5)) :=
  run_convert_bytes_arg _ 33 5 Try.underlying33 Try.underlying5 w.heap.size 0 n n xs hn (fun i hi => by
    have hb : (w.alloc (.cells (xs.map (Value.int .u8)).toArray 5)).heap[w.heap.size]? = some (.cells (xs.map (Value.int .u8)).toArray 5 (0, 0)) := heap_alloc_new w _
    rw [cell_of_row _ _ _ _ _ _ hb]
    simp [List.getElem?_map, List.getD_eq_getElem?_getD, List.getElem?_eq_getElem (by omega : i < xs.length)]) 9 Try.underlying9
theorem conv_c (w : World) (c : UInt8) : (convert 33 9 (.slice (some ⟨w.heap.size, 0, none⟩) 1 1)).run Try.prog (w.alloc (.cells #[.int .u8 c.toNat] 5)) =
      .ok (.string (strOf [c])) (w.alloc (.cells #[.int .u8 c.toNat] 5)) := by
  have h := conv_newc w [(c.toNat : Int)] 1 rfl
  have e : strOfNums [(c.toNat : Int)] = strOf [c] := by simp [strOfNums, strOf]
  rw [e] at h
  exact h
def dB (c : Nat) : Bool := c == 68 || c == 100
def cfB (c : Nat) : Bool := decide ((67 ≤ c ∧ c ≤ 70) ∨ (99 ≤ c ∧ c ≤ 102))
def wl : List UInt8 := [34, 92, 47, 98, 102, 110, 114, 116]
def halfB (q : List UInt8) : Bool := decide (3 ≤ q.length) && dB (bt q 2)
/-- What was read of an escape, behind a byte: q is what was read, with that byte; it had n bytes before. -/
def escS (p : List UInt8) (c : UInt8) : List UInt8 × Bool :=
  let q := p ++ [c]
  if p.length = 0 then (q, true)
  else if p.length = 1 then (if c.toNat = 117 then (q, true) else ([], decide (c ∈ wl)))
  else if p.length = 6 then (q, (c.toNat : Int) == 92)
  else if p.length = 7 then (q, (c.toNat : Int) == 117)
  else if p.length = 8 then (q, dB c.toNat)
  else if p.length = 9 then (q, cfB c.toNat && hexB c.toNat)
  else if p.length = 3 then (if halfB q && cfB c.toNat then (q, false) else (q, hexB c.toNat))
  else if p.length = 2 ∨ p.length = 4 ∨ p.length = 10 then (q, hexB c.toNat)
  else if p.length = 5 then (if !halfB q || decide (bt q 3 < 56) then ([], hexB c.toNat) else (q, hexB c.toNat))
  else ([], hexB c.toNat)
theorem or_d (c : Nat) (h : c < 256) : (bits BinOp.or IntKind.u8 (c : Int) 32 == 100) = dB c := by
  have : ∀ c : Fin 256, (bits BinOp.or IntKind.u8 (c.val : Int) 32 == 100) = dB c.val := by decide +kernel
  exact this ⟨c, h⟩
theorem or_cf (c : Nat) (h : c < 256) : (99 ≤ bits BinOp.or IntKind.u8 (c : Int) 32 ∧ bits BinOp.or IntKind.u8 (c : Int) 32 ≤ 102) ↔ cfB c = true := by
  have : ∀ c : Fin 256, (99 ≤ bits BinOp.or IntKind.u8 (c.val : Int) 32 ∧ bits BinOp.or IntKind.u8 (c.val : Int) 32 ≤ 102) ↔ cfB c.val = true := by decide +kernel
  exact this ⟨c, h⟩
theorem or_lt (c : Nat) (h : c < 256) : 0 ≤ bits BinOp.or IntKind.u8 (c : Int) 32 ∧ bits BinOp.or IntKind.u8 (c : Int) 32 < 256 := by
  have : ∀ c : Fin 256, 0 ≤ bits BinOp.or IntKind.u8 (c.val : Int) 32 ∧ bits BinOp.or IntKind.u8 (c.val : Int) 32 < 256 := by decide +kernel
  exact this ⟨c, h⟩
set_option maxRecDepth 100000 in
theorem escape_0 (p : List UInt8) (c : UInt8) (w : World) (hp : p.length = 0) :
    Calls Try.prog 55 #[.string (strOf p), .int .u8 c.toNat] w fun e w' => e = .returned (.tuple #[.string (strOf (escS p c).1), .bool (escS p c).2]) ∧ Below w.heap.size w w' := by
  have kc := fun w => conv_c w c
  have ha := strOf_append
  have hz := strOf_size
  have hl : (p ++ [c]).length = 1 := by simp [hp]
  have hc := UInt8.toNat_lt c
  have K : Hid (escS p c = (p ++ [c], true)) := by show _ = _; unfold escS; simp [hp]
  go_enter Try.func55, Try.ntmps55
  go_wp2
  go_ret2
  exact ⟨by rw [K.out]; rfl, (Below.refl _ _).alloc (Nat.le_refl _) _⟩
set_option maxRecDepth 100000 in
theorem escape_6 (p : List UInt8) (c : UInt8) (w : World) (hp : p.length = 6) :
    Calls Try.prog 55 #[.string (strOf p), .int .u8 c.toNat] w fun e w' => e = .returned (.tuple #[.string (strOf (escS p c).1), .bool (escS p c).2]) ∧ Below w.heap.size w w' := by
  have kc := fun w => conv_c w c
  have ha := strOf_append
  have hz := strOf_size
  have hl : (p ++ [c]).length = 7 := by simp [hp]
  have hc := UInt8.toNat_lt c
  have hb := strOf_byte (p ++ [c]) 2 (by rw [hz, hl]; omega)
  have hb2 := bt_lt (p ++ [c]) 2
  have hbd := or_d _ hb2
  have hbl := or_lt _ hb2
  generalize bt (p ++ [c]) 2 = b2 at *
  have K : Hid (escS p c = (p ++ [c], (c.toNat : Int) == 92)) := by show _ = _; unfold escS; simp [hp]
  go_enter Try.func55, Try.ntmps55
  go_wp2
  all_goals
    go_ret2
    refine ⟨?_, (Below.refl _ _).alloc (Nat.le_refl _) _⟩
    rw [K.out]; rfl
set_option maxRecDepth 100000 in
theorem escape_7 (p : List UInt8) (c : UInt8) (w : World) (hp : p.length = 7) :
    Calls Try.prog 55 #[.string (strOf p), .int .u8 c.toNat] w fun e w' => e = .returned (.tuple #[.string (strOf (escS p c).1), .bool (escS p c).2]) ∧ Below w.heap.size w w' := by
  have kc := fun w => conv_c w c
  have ha := strOf_append
  have hz := strOf_size
  have hl : (p ++ [c]).length = 8 := by simp [hp]
  have hc := UInt8.toNat_lt c
  have hb := strOf_byte (p ++ [c]) 2 (by rw [hz, hl]; omega)
  have hb2 := bt_lt (p ++ [c]) 2
  have hbd := or_d _ hb2
  have hbl := or_lt _ hb2
  generalize bt (p ++ [c]) 2 = b2 at *
  have K : Hid (escS p c = (p ++ [c], (c.toNat : Int) == 117)) := by show _ = _; unfold escS; simp [hp]
  go_enter Try.func55, Try.ntmps55
  go_wp2
  all_goals
    go_ret2
    refine ⟨?_, (Below.refl _ _).alloc (Nat.le_refl _) _⟩
    rw [K.out]; rfl
set_option maxRecDepth 100000 in
theorem escape_8 (p : List UInt8) (c : UInt8) (w : World) (hp : p.length = 8) :
    Calls Try.prog 55 #[.string (strOf p), .int .u8 c.toNat] w fun e w' => e = .returned (.tuple #[.string (strOf (escS p c).1), .bool (escS p c).2]) ∧ Below w.heap.size w w' := by
  have kc := fun w => conv_c w c
  have ha := strOf_append
  have hz := strOf_size
  have hl : (p ++ [c]).length = 9 := by simp [hp]
  have hc := UInt8.toNat_lt c
  have hb := strOf_byte (p ++ [c]) 2 (by rw [hz, hl]; omega)
  have hb2 := bt_lt (p ++ [c]) 2
  have hbd := or_d _ hb2
  have hbl := or_lt _ hb2
  generalize bt (p ++ [c]) 2 = b2 at *
  have hcd := or_d _ hc
  have hcl := or_lt _ hc
  have K : Hid (escS p c = (p ++ [c], dB c.toNat)) := by show _ = _; unfold escS; simp [hp]
  go_enter Try.func55, Try.ntmps55
  go_wp2
  all_goals
    go_ret2
    refine ⟨?_, (Below.refl _ _).alloc (Nat.le_refl _) _⟩
    rw [K.out]; rfl
set_option maxRecDepth 100000 in
theorem escape_2 (p : List UInt8) (c : UInt8) (w : World) (hp : p.length = 2) :
    Calls Try.prog 55 #[.string (strOf p), .int .u8 c.toNat] w fun e w' => e = .returned (.tuple #[.string (strOf (escS p c).1), .bool (escS p c).2]) ∧ Below w.heap.size w w' := by
  have kc := fun w => conv_c w c
  have ha := strOf_append
  have hz := strOf_size
  have hl : (p ++ [c]).length = 3 := by simp [hp]
  have hc := UInt8.toNat_lt c
  have hb := strOf_byte (p ++ [c]) 2 (by rw [hz, hl]; omega)
  have hb2 := bt_lt (p ++ [c]) 2
  have hbd := or_d _ hb2
  have hbl := or_lt _ hb2
  generalize bt (p ++ [c]) 2 = b2 at *
  have HX := Lib.hid (fun w => hex_any c.toNat w hc)
  have K : Hid (escS p c = (p ++ [c], hexB c.toNat)) := by show _ = _; unfold escS; simp [hp]
  go_enter Try.func55, Try.ntmps55
  go_wp2_with fail
  all_goals
    refine (HX.out _).mono ?_
    rintro e w' ⟨rfl, rfl⟩
    go_wp2_with fail
    go_ret2
    refine ⟨?_, (Below.refl _ _).alloc (Nat.le_refl _) _⟩
    rw [K.out]; rfl
set_option maxRecDepth 100000 in
theorem escape_4 (p : List UInt8) (c : UInt8) (w : World) (hp : p.length = 4) :
    Calls Try.prog 55 #[.string (strOf p), .int .u8 c.toNat] w fun e w' => e = .returned (.tuple #[.string (strOf (escS p c).1), .bool (escS p c).2]) ∧ Below w.heap.size w w' := by
  have kc := fun w => conv_c w c
  have ha := strOf_append
  have hz := strOf_size
  have hl : (p ++ [c]).length = 5 := by simp [hp]
  have hc := UInt8.toNat_lt c
  have hb := strOf_byte (p ++ [c]) 2 (by rw [hz, hl]; omega)
  have hb2 := bt_lt (p ++ [c]) 2
  have hbd := or_d _ hb2
  have hbl := or_lt _ hb2
  generalize bt (p ++ [c]) 2 = b2 at *
  have HX := Lib.hid (fun w => hex_any c.toNat w hc)
  have K : Hid (escS p c = (p ++ [c], hexB c.toNat)) := by show _ = _; unfold escS; simp [hp]
  go_enter Try.func55, Try.ntmps55
  go_wp2_with fail
  all_goals
    refine (HX.out _).mono ?_
    rintro e w' ⟨rfl, rfl⟩
    go_wp2_with fail
    go_ret2
    refine ⟨?_, (Below.refl _ _).alloc (Nat.le_refl _) _⟩
    rw [K.out]; rfl
set_option maxRecDepth 100000 in
theorem escape_10 (p : List UInt8) (c : UInt8) (w : World) (hp : p.length = 10) :
    Calls Try.prog 55 #[.string (strOf p), .int .u8 c.toNat] w fun e w' => e = .returned (.tuple #[.string (strOf (escS p c).1), .bool (escS p c).2]) ∧ Below w.heap.size w w' := by
  have kc := fun w => conv_c w c
  have ha := strOf_append
  have hz := strOf_size
  have hl : (p ++ [c]).length = 11 := by simp [hp]
  have hc := UInt8.toNat_lt c
  have hb := strOf_byte (p ++ [c]) 2 (by rw [hz, hl]; omega)
  have hb2 := bt_lt (p ++ [c]) 2
  have hbd := or_d _ hb2
  have hbl := or_lt _ hb2
  generalize bt (p ++ [c]) 2 = b2 at *
  have HX := Lib.hid (fun w => hex_any c.toNat w hc)
  have K : Hid (escS p c = (p ++ [c], hexB c.toNat)) := by show _ = _; unfold escS; simp [hp]
  go_enter Try.func55, Try.ntmps55
  go_wp2_with fail
  all_goals
    refine (HX.out _).mono ?_
    rintro e w' ⟨rfl, rfl⟩
    go_wp2_with fail
    go_ret2
    refine ⟨?_, (Below.refl _ _).alloc (Nat.le_refl _) _⟩
    rw [K.out]; rfl
end Go.Proofs.Ytmfldffbafamnaa
