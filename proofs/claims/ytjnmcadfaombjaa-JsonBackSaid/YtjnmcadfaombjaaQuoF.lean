/- Walks: the document's Write, Whole and Read. -/
import Derived.Test.YtjnmcadfaombjaaQuoE
import Derived.Test.YtjnmcadfaombjaaRow
namespace Go.Proofs.Ytjnmcadfaombjaa
open Go.RowKit
set_option linter.unusedVariables false
set_option linter.unusedSimpArgs false
def readV (o : Option (List UInt8)) : Value := match o with | some t => .tuple #[.string (strOf t), .int .i64 0] | none => .tuple #[.string ⟨#[]⟩, .int .i64 7]
theorem rone_at (s : ByteArray) (k : Nat) (o : Option (Nat × Nat)) (w : World) (hs : s.size ≤ 1000000) (h : oneJ (s.data.toList.drop k) = o) :
    Calls Try.prog 64 #[.string s, .int .i64 k] w fun e w' => e = .returned (roneV o) ∧ Below w.heap.size w w' := by
  have := rone_any s k w hs
  unfold oneAt at this
  rw [if_neg (by omega), Int.toNat_natCast, h] at this
  exact this
theorem wr_take (rs : List Nat) (k : Nat) (h : k < rs.length) : (rs.take (k + 1)).flatMap wrJ = (rs.take k).flatMap wrJ ++ wrJ (rs.getD k 0) := by
  rw [List.take_add_one, List.getElem?_eq_getElem h, List.getD_eq_getElem?_getD, List.getElem?_eq_getElem h, List.flatMap_append]
  simp
set_option maxRecDepth 100000 in
set_option maxHeartbeats 2000000 in
theorem rwrite_any (s : ByteArray) (w : World) (hs : s.size ≤ 60000) :
    Calls Try.prog 34 #[.string s] w fun e w' => e = .returned (.string (strOf (writeJ s.data.toList))) ∧ Below w.heap.size w w' := by
  have HR := Lib.hid (fun w => rrunes_any s w hs)
  have hN := runes_length_le s.data.toList
  rw [← sz_len] at hN
  have hN4 : (runes s.data.toList).length ≤ 60000 := by omega
  have HT := Lib.hid (runes_top s.data.toList)
  have HW : Hid (writeJ s.data.toList = (runes s.data.toList).flatMap wrJ) := rfl
  generalize runes s.data.toList = rs at *
  clear hN
  go_enter Try.func34, Try.ntmps34
  go_wp2_with fail
  refine (HR.out _).mono ?_
  rintro e w2 ⟨v, rfl, ho, b2⟩
  have r1 := RowOf.own (f := fun j => .int .i64 (rs.getD j 0 : Nat)) ho (fun j hj => by rw [List.getElem?_map, List.getElem?_eq_getElem hj, List.getD_eq_getElem?_getD, List.getElem?_eq_getElem hj]; rfl)
  clear ho
  obtain ⟨ao, cap, rfl, h1⟩ := r1
  have H1 := Lib.hid h1
  clear h1
  go_wp2_with fail
  go_loopw [4, 5] (fun o z wr => ∃ (k : Nat), z = .int .i64 k ∧ o = .string (strOf ((rs.take k).flatMap wrJ)) ∧ k ≤ rs.length ∧ Below w2.heap.size w2 wr) (fun _ z _ => rs.length - (intOf z).toNat)
  case atStart => exact ⟨0, rfl, rfl, Nat.zero_le _, Below.refl _ _⟩
  case round =>
    obtain ⟨k, rfl, rfl, hk, hb⟩ := hrel
    have hjl := flat_length (rs.take k)
    rw [List.length_take] at hjl
    have hzz := strOf_size ((rs.take k).flatMap wrJ)
    by_cases hlt : k < rs.length
    · obtain ⟨g1, rfl, hg1, hc1⟩ := H1.out.resolve_left (by omega)
      have c1 := (hb.cell (p := ⟨g1, k, none⟩) (by show g1 < _; omega)).trans (hc1 k hlt)
      have hr := HT.out (rs.getD k 0) (by rw [List.getD_eq_getElem?_getD, List.getElem?_eq_getElem hlt]; simp)
      have HQ : Hid (strOf ((rs.take k).flatMap wrJ) ++ strOf (wrJ (rs.getD k 0)) = strOf ((rs.take (k + 1)).flatMap wrJ)) := by
        show _ = _; rw [wr_take rs k hlt, strOf_append]
      have hz2 := strOf_size (wrJ (rs.getD k 0))
      have hl2 := (wrJ_length (rs.getD k 0)).1
      generalize rs.getD k 0 = r at *
      have HX := Lib.hid (fun w => rwritten_any r w hr)
      clear hc1 H1 HT hr
      go_wp2_with fail
      refine (HX.out _).mono ?_
      rintro e w7 ⟨rfl, b9⟩
      go_wp2_with fail
      go_roundw
      case rel => exact ⟨k + 1, by go_num, by rw [HQ.out], hlt, hb.trans (b9.mono hb.size)⟩
      case measure => simp [intOf]; omega
    · have hkk : k = rs.length := by omega
      subst hkk
      rw [List.take_length] at *
      go_wp2_with fail
      go_ret
      exact ⟨by rw [HW.out]; rfl, b2.trans (hb.mono b2.size)⟩
end Go.Proofs.Ytjnmcadfaombjaa
