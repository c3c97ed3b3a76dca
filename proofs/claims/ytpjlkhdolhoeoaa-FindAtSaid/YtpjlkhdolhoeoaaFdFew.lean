/- Walks: the law's few texts (chapter 03). -/
import Derived.Test.YtpjlkhdolhoeoaaFdFit
import Derived.Deep.AppendLies
import Derived.Deep.RegionLaw
namespace Go.Proofs.Ytpjlkhdolhoeoaa
open Go.Shelf Go.RowKit Go.Lib Go.Maps
set_option linter.unusedVariables false
set_option linter.unusedSimpArgs false
/-- Texts that came in. -/
structure StrsM (w : World) (o : Option Addr) (len : Nat) (ss : List Bs) : Prop where
  el : ss.length = len
  nn : 0 < len → ∃ a, o = some a
  cell : ∀ a, o = some a → ∀ (j : Nat) (s : Bs), ss[j]? = some s → w.cell? (a.add j) = some (.string (strOf s)) ∧ (a.add j).block < w.heap.size
  big : ∀ s ∈ ss, s.length ≤ 9223372036854775807
  lb : len ≤ 9223372036854775807
/-- Those that are looked at. -/
def fewL (ss : List Bs) : List Bs := (ss.take 12).map fun s => s.take 40
theorem fewL_len (ss : List Bs) : (fewL ss).length = min 12 ss.length := by simp [fewL]
theorem fewL_mem {ss : List Bs} : ∀ s ∈ fewL ss, s.length ≤ 40 := by
  intro s hs
  unfold fewL at hs
  obtain ⟨x, _, rfl⟩ := List.mem_map.1 hs
  rw [List.length_take]; omega
theorem cut40 (s : Bs) : ∃ n : Nat, min (s.length : Int) 40 = (n : Int) ∧ n ≤ s.length ∧ (strOf s).extract 0 n = strOf (s.take 40) := by
  by_cases h : s.length ≤ 40
  · refine ⟨s.length, by omega, Nat.le_refl _, ?_⟩
    rw [strOf_take s _ (Nat.le_refl _), List.take_length, List.take_of_length_le h]
  · exact ⟨40, by omega, by omega, strOf_take s 40 (by omega)⟩
set_option maxRecDepth 100000 in
set_option maxHeartbeats 4000000 in
theorem ffew {w : World} {o : Option Addr} {len cap : Nat} {ss : List Bs} (h : StrsM w o len ss) :
    Calls Try.prog 11 #[.slice o len cap] w fun e w' => ∃ g c, e = .returned (.slice (some ⟨g, 0, none⟩) (fewL ss).length c) ∧ OwnT w (.slice (some ⟨g, 0, none⟩) (fewL ss).length c) (fewL ss).length (fewL ss) w' := by
  obtain ⟨i0, hi, hz0, hz1, hz2⟩ := info_parts infoStr
  have hst : OwnT w (.slice (some ⟨w.heap.size, 0, none⟩) 0 0) 0 [] (w.alloc (.cells #[] 9)) := ⟨⟨_, _, rfl⟩, World.ownsRow_lit w #[] 0 (Nat.le_refl _) (by decide) rfl, (Below.refl _ _).alloc (Nat.le_refl _) _⟩
  have HST := Lib.hid hst
  have HH := Lib.hid h
  have hlb := h.lb
  have hle := h.el
  clear h hst
  go_enter Try.func11, Try.ntmps11
  go_wp2_with fail
  go_loopw [3, 4] (fun v z wr => ∃ k : Nat, z = .int .i64 k ∧ k ≤ len ∧ k ≤ 12 ∧ OwnT w v k ((ss.take k).map fun s => s.take 40) wr) (fun _ z _ => 12 - (intOf z).toNat)
  case atStart => exact ⟨0, rfl, Nat.zero_le _, by omega, by simpa using HST.out⟩
  case round =>
    obtain ⟨k, rfl, hk, hk12, hR⟩ := hrel
    have HR := Lib.hid hR
    obtain ⟨⟨g, cp, rfl⟩, hown, hbel⟩ := hR
    by_cases hlt : k < len
    · have kz : (k : Int) < (len : Int) := by omega
      by_cases h12 : k < 12
      · have k12 : (k : Int) < 12 := by omega
        obtain ⟨a, rfl⟩ := HH.out.nn (by omega)
        obtain ⟨s, hs⟩ : ∃ s, ss[k]? = some s := ⟨_, List.getElem?_eq_getElem (by omega)⟩
        obtain ⟨hc0, hcl⟩ := HH.out.cell a rfl k s hs
        have hc : wr.cell? (a.add k) = some (.string (strOf s)) := (World.cell?_of_block (hbel.block _ hcl)).trans hc0
        have hcd : wr.drew.cell? (a.add k) = some (.string (strOf s)) := hc
        have hsz := strOf_size s
        have hbig := HH.out.big s (List.mem_of_getElem? hs)
        obtain ⟨n, hm, hn, hY⟩ := cut40 s
        have hsk : (ss.take (k + 1)).map (fun s => s.take 40) = (ss.take k).map (fun s => s.take 40) ++ [s.take 40] := by rw [List.take_add_one, hs]; simp
        have HSK := Lib.hid hsk
        obtain ⟨A, hA⟩ : ∃ A, (ss.take k).map (fun s => s.take 40) = A := ⟨_, rfl⟩
        rw [hA] at HR hown
        obtain ⟨Y, hYY⟩ : ∃ Y, strOf (s.take 40) = Y := ⟨_, rfl⟩
        have HY := Lib.hid hYY
        rw [hYY] at hY
        obtain ⟨L, hL⟩ : ∃ L, s.length = L := ⟨_, rfl⟩
        rw [hL] at hsz hm hn hbig
        obtain ⟨X, hX⟩ : ∃ X, strOf s = X := ⟨_, rfl⟩
        rw [hX] at hc hcd hsz hY
        have HA := Lib.hid hA
        have k0 : (0 : Int) ≤ (k : Int) := by omega
        have n0 : (0 : Int) ≤ (n : Int) := by omega
        have n1 : (n : Int) ≤ (L : Int) := by omega
        have e2 : IntKind.i64.wrap ((k : Int) + 1) = (k : Int) + 1 := IntWalk.i64_in _ (by omega)
        have e3 : k + 1 ≤ maxLen := by unfold maxLen; omega
        have e4 : (k + 1) * 16 ≤ 140737488355328 := by omega
        have e5 : w.heap.size ≤ (wr.drew.alloc (.cells #[.string Y] 9)).heap.size := by have := hbel.size; simp; omega
        have hownA : ((wr.alloc (.cells #[.string Y] 9)).drew).ownsRow w.heap.size 9 1 (.slice (some ⟨g, 0, none⟩) k cp) k (strG A) := hown.alloc _
        have hnw : ∀ i u, [Value.string Y][i]? = some u → ((wr.alloc (.cells #[.string Y] 9)).drew).cell? ((⟨wr.heap.size, 0, none⟩ : Addr).add i) = some u := cells_newF wr #[.string Y] 9
        clear hA hYY hL hX hbel hcl hc0 hs hsk hown
        go_upto_region 5 with fail
        go_region_law (refine step_append_lies _ rfl (.tmp 16) (.tmp 28) 23 rfl w.heap.size 9 i0 (.string ⟨#[]⟩) 1 16 Try.underlying23 hi hz0 hz1 hz2 rfl (by decide) (.slice (some ⟨g, 0, none⟩) k cp) k (strG A) rfl hownA ⟨wr.heap.size, 0, none⟩ 1 1 [.string Y] rfl rfl hnw (by simp [Value.oneCell']) (by omega) e3 e4 e5 (wr.heap.size + 1) (by simp) ?_; intro g2 cap2 w3 hown3 hgrow3 hfr3 hlt3)
        all_goals
          have hg3 : (wr.alloc (.cells #[.string Y] 9)).grownBy w3 (Value.slice (some ⟨g, 0, none⟩) k cp).ownBlock := ⟨hgrow3.os, hgrow3.tape, hgrow3.output, hgrow3.size, hgrow3.block⟩
          have hb4 : Below w.heap.size w w3 := (HR.out.2.2.alloc HR.out.2.2.size _).trans (below_grown hg3 (by have := HR.out.2.2.size; simp; omega) (fun j hj => (HR.out.2.1.lt j hj).1))
          have HB4 := Lib.hid (And.intro hown3 hb4)
          clear hown3 hgrow3 hfr3 hlt3 hg3 hb4 hownA hnw
          go_wp2_with fail
          go_roundw
          case rel =>
            refine ⟨k + 1, by go_num, hlt, h12, ⟨_, _, rfl⟩, ?_, HB4.out.2⟩
            rw [HSK.out, HA.out, strG_snoc, HY.out]
            exact HB4.out.1
          case measure => simp [intOf]; omega
      · have k12 : ¬ (k : Int) < 12 := by omega
        have hke : k = 12 := by omega
        have hFE : (ss.take k).map (fun s => s.take 40) = fewL ss := by rw [hke]; rfl
        have hlen : (fewL ss).length = k := by rw [fewL_len]; omega
        rw [hFE, ← hlen] at HR
        rw [hlen] at HR
        have HL := Lib.hid hlen
        clear hke hFE hlen hown hbel
        go_wp2_with fail
        go_ret
        exact ⟨g, cp, by rw [HL.out]; rfl, by rw [HL.out]; exact HR.out⟩
    · have kz : ¬ (k : Int) < (len : Int) := by omega
      have hke : k = len := by omega
      have hFE : (ss.take k).map (fun s => s.take 40) = fewL ss := by
        unfold fewL
        rw [List.take_of_length_le (by omega), List.take_of_length_le (by omega)]
      have hlen : (fewL ss).length = k := by rw [fewL_len]; omega
      rw [hFE] at HR
      have HL := Lib.hid hlen
      clear hke hFE hlen hown hbel
      go_wp2_with fail
      go_ret
      exact ⟨g, cp, by rw [HL.out]; rfl, by rw [HL.out]; exact HR.out⟩
end Go.Proofs.Ytpjlkhdolhoeoaa
