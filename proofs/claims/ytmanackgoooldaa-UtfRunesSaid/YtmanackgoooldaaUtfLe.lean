/- The law of the text's runes. -/
import Derived.Test.YtmanackgoooldaaUtfLaw
import Derived.Test.YtmanackgoooldaaUtfO
import Derived.Test.YtmanackgoooldaaUtfP
import Derived.Laws.OwnMore
namespace Go.Proofs.Ytmanackgoooldaa
open Go.RowKit
set_option linter.unusedVariables false
set_option linter.unusedSimpArgs false
/-- A slice whose elements are known, in blocks below B. -/
def RowOf (w : World) (B : Nat) (v : Value) (N : Nat) (f : Nat → Value) : Prop :=
  ∃ ao cap, v = .slice ao N cap ∧ (N = 0 ∨ ∃ g, ao = some ⟨g, 0, none⟩ ∧ g < B ∧ ∀ j, j < N → w.cell? ⟨g, j, none⟩ = some (f j))
theorem RowOf.own {w : World} {base : Nat} {e : TypeId} {v : Value} {N : Nat} {xs : List Value} {f : Nat → Value} (h : w.ownsRow base e 1 v N xs) (hf : ∀ j, j < N → xs[j]? = some (f j)) : RowOf w w.heap.size v N f := by
  rcases h.2 with ⟨rfl, rfl⟩ | ⟨g, cap, cur, rfl, hb, hh, _⟩
  · exact ⟨none, 0, rfl, .inl rfl⟩
  · refine ⟨_, _, rfl, .inr ⟨g, rfl, (Array.getElem?_eq_some_iff.1 hh).1, fun j hj => ?_⟩⟩
    rw [h.cellAt j (by omega)]
    exact hf j hj
theorem RowOf.below {w w' : World} {B C : Nat} {v : Value} {N : Nat} {f : Nat → Value} (h : RowOf w B v N f) (hb : Below C w w') (hC : B ≤ C) : RowOf w' B v N f := by
  obtain ⟨ao, cap, hv, h⟩ := h
  refine ⟨ao, cap, hv, ?_⟩
  rcases h with h | ⟨g, hg, hl, hc⟩
  · exact .inl h
  · exact .inr ⟨g, hg, hl, fun j hj => (hb.cell (p := ⟨g, j, none⟩) (by show g < C; omega)).trans (hc j hj)⟩
theorem runes_top (l : List UInt8) : ∀ r ∈ runes l, r ≤ 1114111 := by
  intro r hr
  have e : runes l = (stps l).map (·.r) := by rw [runes, ← stps_map, List.map_map]; rfl
  rw [e] at hr
  obtain ⟨x, _, rfl⟩ := List.mem_map.1 hr
  exact x.hr
theorem joined_take (rs : List Nat) (k : Nat) (h : k < rs.length) : joined (rs.take (k + 1)) = joined (rs.take k) ++ enc ((rs.getD k 0 : Nat) : Int) := by
  unfold joined
  rw [List.take_add_one, List.getElem?_eq_getElem h, List.getD_eq_getElem?_getD, List.getElem?_eq_getElem h, List.map_append, List.flatten_append]
  simp
theorem joined_length (rs : List Nat) : (joined rs).length ≤ 4 * rs.length := by
  induction rs with
  | nil => simp [joined]
  | cons r t ih =>
    have e : joined (r :: t) = enc (r : Int) ++ joined t := rfl
    rw [e, List.length_append, List.length_cons]
    have := (enc_length (r : Int)).1
    omega
set_option maxRecDepth 100000 in
set_option maxHeartbeats 1000000 in
theorem lawRunes (s : ByteArray) (w : World) (hs : s.size ≤ 9223372036854775807) :
    Calls Try.prog 7 #[.string s] w fun e w' => e = .returned (.bool true) ∧ Below w.heap.size w w' := by
  have hz := fewS_size s
  have HF := Lib.hid (fun w => few_any s w hs)
  generalize fewS s = t at *
  have HP := Lib.hid (fun w => prunes_any t w (by omega))
  have HR := Lib.hid (fun w => rrunes_any t w (by omega))
  have HC := Lib.hid (fun w => count_any t w (by omega))
  have HI := Lib.hid (fun w => pis_any t w (by omega))
  have HJ := Lib.hid (fun w => ris_any t w (by omega))
  have hN := runes_length_le t.data.toList
  rw [← sz_len] at hN
  have hN4 : (runes t.data.toList).length ≤ 400 := by omega
  have HT := Lib.hid (runes_top t.data.toList)
  have hgd : good t.data.toList = true → strOf (joined (runes t.data.toList)) = t := fun h => by rw [joined_good _ _ (Nat.le_refl _) h, strOf_data]
  generalize runes t.data.toList = rs at *
  generalize good t.data.toList = g at *
  have HG := Lib.hid hgd
  clear hgd hN hz
  have hself : (t.toList == t.toList) = true := by simp
  go_enter Try.func7, Try.ntmps7
  go_wp2_with fail
  refine (HF.out _).mono ?_
  rintro e w2 ⟨rfl, rfl⟩
  go_wp2_with fail
  refine (HP.out _).mono ?_
  rintro e w2 ⟨v, rfl, ho, b2⟩
  have r1 := RowOf.own (f := fun j => .int .i32 (rs.getD j 0 : Nat)) ho (fun j hj => by rw [List.getElem?_map, List.getElem?_eq_getElem hj, List.getD_eq_getElem?_getD, List.getElem?_eq_getElem hj]; rfl)
  clear ho
  go_wp2_with fail
  refine (HR.out _).mono ?_
  rintro e w3 ⟨u, rfl, ho, b3⟩
  have r2 := RowOf.own (f := fun j => .int .i64 (rs.getD j 0 : Nat)) ho (fun j hj => by rw [List.getElem?_map, List.getElem?_eq_getElem hj, List.getD_eq_getElem?_getD, List.getElem?_eq_getElem hj]; rfl)
  clear ho
  have r1 := r1.below b3 (Nat.le_refl _)
  have b4 := b2.trans (b3.mono b2.size)
  have z3 := b3.size
  have z2 := b2.size
  clear b2 b3
  obtain ⟨ao, cap, rfl, h1⟩ := r1
  obtain ⟨bo, cbp, rfl, h2⟩ := r2
  have H1 := Lib.hid h1
  have H2 := Lib.hid h2
  clear h1 h2
  go_wp2_with fail
  refine (HC.out _).mono ?_
  rintro e w4 ⟨rfl, b5⟩
  go_wp2_with fail
  refine (HI.out _).mono ?_
  rintro e w5 ⟨rfl, b6⟩
  have b7 := b5.trans (b6.mono b5.size)
  clear b5 b6
  go_wp2_with fail
  refine (HJ.out _).mono ?_
  rintro e w6 ⟨rfl, b6⟩
  have b8 := b7.trans (b6.mono b7.size)
  clear b6 b7
  go_wp2_with fail
  clear HP HR HC HI HF
  go_loopw [5, 6] (fun o z wr => ∃ (k : Nat), z = .int .i64 k ∧ o = .string (strOf (joined (rs.take k))) ∧ k ≤ rs.length ∧ Below w3.heap.size w3 wr) (fun _ z _ => rs.length - (intOf z).toNat)
  case atStart => exact ⟨0, rfl, rfl, Nat.zero_le _, b8⟩
  case round =>
    obtain ⟨k, rfl, rfl, hk, hb⟩ := hrel
    have hjl := joined_length (rs.take k)
    rw [List.length_take] at hjl
    have hzz := strOf_size (joined (rs.take k))
    by_cases hlt : k < rs.length
    · obtain ⟨g1, rfl, hg1, hc1⟩ := H1.out.resolve_left (by omega)
      obtain ⟨g2, rfl, hg2, hc2⟩ := H2.out.resolve_left (by omega)
      have c1 := (hb.cell (p := ⟨g1, k, none⟩) (by show g1 < _; omega)).trans (hc1 k hlt)
      have c2 := (hb.cell (p := ⟨g2, k, none⟩) hg2).trans (hc2 k hlt)
      have hr := HT.out (rs.getD k 0) (by rw [List.getD_eq_getElem?_getD, List.getElem?_eq_getElem hlt]; simp)
      have HQ : Hid (strOf (joined (rs.take k)) ++ strOf (enc ((rs.getD k 0 : Nat) : Int)) = strOf (joined (rs.take (k + 1)))) := by
        show _ = _; rw [joined_take rs k hlt, strOf_append]
      have hz2 := strOf_size (enc ((rs.getD k 0 : Nat) : Int))
      have hl2 := (enc_length ((rs.getD k 0 : Nat) : Int)).1
      generalize rs.getD k 0 = r at *
      clear hc1 hc2 H1 H2 HT HG HJ
      go_wp2_with fail
      go_quiet (fail)
      go_wp2_with fail
      refine (pbytes_any _ _).mono ?_
      rintro e w7 ⟨rfl, b9⟩
      go_wp2_with fail
      go_roundw
      case rel => exact ⟨k + 1, by go_num, by rw [HQ.out], hlt, (below_drewN hb nq).trans (b9.mono (below_drewN hb nq).size)⟩
      case measure => simp [intOf]; omega
    · have hkk : k = rs.length := by omega
      subst hkk
      rw [List.take_length] at *
      have hb2 := b4.trans (hb.mono (by have := b4.size; exact this))
      cases g
      · go_wp2_with fail
        refine (HJ.out _).mono ?_
        rintro e w7 ⟨rfl, b9⟩
        go_wp2_with fail
        refine (awake_any _).mono ?_
        rintro e w8 ⟨rfl, b10⟩
        go_wp2_with fail
        go_ret
        exact ⟨rfl, (hb2.trans (b9.mono hb2.size)).trans (b10.mono (hb2.trans (b9.mono hb2.size)).size)⟩
      · rw [HG.out rfl] at *
        go_wp2_with fail
        refine (HJ.out _).mono ?_
        rintro e w7 ⟨rfl, b9⟩
        go_wp2_with fail
        refine (awake_any _).mono ?_
        rintro e w8 ⟨rfl, b10⟩
        go_wp2_with fail
        go_ret
        exact ⟨rfl, (hb2.trans (b9.mono hb2.size)).trans (b10.mono (hb2.trans (b9.mono hb2.size)).size)⟩
end Go.Proofs.Ytmanackgoooldaa
