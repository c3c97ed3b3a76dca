/- Walks: the document's Same of two rows of texts (chapter 1). -/
import Derived.Test.YtdmlciebkilmjaaJsW
import Derived.Outline
namespace Go.Proofs.Ytdmlciebkilmjaa
open Go.RowKit
set_option linter.unusedVariables false
set_option linter.unusedSimpArgs false
theorem strC_at {ks : List (List UInt8)} {j : Nat} {u : List UInt8} (h : ks[j]? = some u) : (strC ks)[j]? = some (.string (strOf u)) := by
  unfold strC; rw [List.getElem?_map, h]; rfl
/-- A row of texts in memory. -/
def TxtR (w : World) (ks : List (List UInt8)) (v : Value) : Prop := ∃ ao cap, v = .slice ao ks.length cap ∧
  ∀ (j : Nat) (u : List UInt8), ks[j]? = some u → ∃ g, ao = some ⟨g, 0, none⟩ ∧ g < w.heap.size ∧ w.cell? ⟨g, j, none⟩ = some (.string (strOf u))
theorem TxtR.of {w : World} {ok : Nat → Prop} {v : Value} {ks : List (List UInt8)} (h : RowW w ok v ks.length (strC ks)) : TxtR w ks v := by
  rcases h with ⟨hv, h0, _⟩ | ⟨g, cap, hv, _, hl, hc⟩
  · exact ⟨none, 0, by rw [hv, h0], fun j u hu => by rw [List.getElem?_eq_none (by omega)] at hu; cases hu⟩
  · exact ⟨_, cap, hv, fun j u hu => ⟨g, rfl, hl, hc j _ (strC_at hu)⟩⟩
theorem str_same (a b : List UInt8) : ((strOf a).toList == (strOf b).toList) = decide (a = b) := by
  rw [ByteArray.toList_eq, ByteArray.toList_eq, strOf_list, strOf_list]
  by_cases h : a = b <;> simp [h]
set_option maxRecDepth 100000 in
set_option maxHeartbeats 1000000 in
theorem rsame_any (ks ks2 : List (List UInt8)) (v v2 : Value) (w : World) (h1 : TxtR w ks v) (h2 : TxtR w ks2 v2) (l1 : ks.length ≤ 1000000) (l2 : ks2.length ≤ 1000000) :
    Calls Try.prog 16 #[v, v2] w fun e w' => e = .returned (.bool (decide (ks = ks2))) ∧ Below w.heap.size w w' := by
  obtain ⟨a1, p1, rfl, C1⟩ := h1
  obtain ⟨a2, p2, rfl, C2⟩ := h2
  by_cases hn : ks.length = ks2.length
  · have HC2 := Lib.hid C2
    have HC1 := Lib.hid C1
    have HN := Lib.hid hn
    have hq : ((ks.length : Int) == (ks.length : Int)) = true := by simp
    rw [← hn]
    clear C1 C2 hn l2
    go_enter Try.func16, Try.ntmps16
    go_wp2_with fail
    go_loopw [5] (fun z wr => ∃ i : Nat, z = .int .i64 i ∧ i ≤ ks.length ∧ (∀ j, j < i → ks[j]? = ks2[j]?) ∧ Below w.heap.size w wr) (fun z _ => ks.length - (intOf z).toNat)
    case atStart => exact ⟨0, rfl, Nat.zero_le _, fun j hj => by omega, Below.refl _ _⟩
    case round =>
      obtain ⟨i, rfl, hi, hs, hb⟩ := hrel
      have HS := Lib.hid hs
      have HB := Lib.hid hb
      clear hs hb
      by_cases hlt : i < ks.length
      · obtain ⟨u, hu⟩ : ∃ u, ks[i]? = some u := ⟨_, List.getElem?_eq_getElem hlt⟩
        obtain ⟨u2, hu2⟩ : ∃ u, ks2[i]? = some u := ⟨_, List.getElem?_eq_getElem (by have := HN.out; omega)⟩
        obtain ⟨g1, rfl, hg1, d1⟩ := HC1.out i u hu
        obtain ⟨g2, rfl, hg2, d2⟩ := HC2.out i u2 hu2
        have e1 := (HB.out.cell (p := ⟨g1, i, none⟩) hg1).trans d1
        have e2 := (HB.out.cell (p := ⟨g2, i, none⟩) hg2).trans d2
        obtain ⟨b, hb⟩ : ∃ b, decide (u = u2) = b := ⟨_, rfl⟩
        have hb2 := (str_same u u2).trans hb
        have HBB := Lib.hid hb
        generalize strOf u = x at *
        generalize strOf u2 = y at *
        have HU := Lib.hid hu
        have HU2 := Lib.hid hu2
        clear d1 d2 hb hu hu2
        go_wp2_with fail
        go_region_held3 (fun w' => w'.cell? ⟨g1, i, none⟩ = some (.string x) ∧ w'.cell? ⟨g2, i, none⟩ = some (.string y)) (exact ⟨e1, e2⟩) (fail)
        cases b
        · go_wp2_with fail
          go_ret
          refine ⟨?_, HB.out.drew⟩
          rw [decide_eq_false (fun h => of_decide_eq_false HBB.out (by subst h; exact Option.some.inj (HU.out.symm.trans HU2.out)))]; rfl
        · go_wp2_with fail
          go_roundw
          case rel =>
            refine ⟨i + 1, by go_num, by omega, fun j hj => ?_, HB.out.drew⟩
            rcases Nat.lt_or_ge j i with h | h
            · exact HS.out j h
            · obtain rfl : j = i := by omega
              rw [HU.out, HU2.out, of_decide_eq_true HBB.out]
          case measure => simp [intOf]; omega
      · go_wp2_with fail
        go_ret
        refine ⟨?_, HB.out⟩
        rw [decide_eq_true (List.ext_getElem? fun j => ?_)]
        · rfl
        · rcases Nat.lt_or_ge j i with h | h
          · exact HS.out j h
          · rw [List.getElem?_eq_none (by omega), List.getElem?_eq_none (by have := HN.out; omega)]
  · have hq : ((ks.length : Int) == (ks2.length : Int)) = false := by simp; omega
    have HV : Hid (decide (ks = ks2) = false) := decide_eq_false (fun h => hn (by rw [h]))
    clear C1 C2
    go_enter Try.func16, Try.ntmps16
    go_wp2_with fail
    go_ret
    exact ⟨by rw [HV.out]; rfl, Below.refl _ _⟩
end Go.Proofs.Ytdmlciebkilmjaa
