/- Walks: many texts are made ready (find.New, chapter 03). -/
import Derived.Test.YtpjlkhdolhoeoaaFdLink
namespace Go.Proofs.Ytpjlkhdolhoeoaa
open Go.Shelf Go.RowKit Go.Lib Go.Maps
set_option linter.unusedVariables false
set_option linter.unusedSimpArgs false
/-- The texts lie in these cells. -/
def TxtM (w : World) (b off : Nat) (ls : List Bs) : Prop := ∀ (j : Nat) (s : Bs), ls[j]? = some s → w.cell? ⟨b, off + j, none⟩ = some (.string (strOf s))
theorem TxtM.keep {w w' : World} {b off : Nat} {ls : List Bs} (h : TxtM w b off ls) (hb : Below w.heap.size w w') : TxtM w' b off ls := fun j s hs => by
  have h1 := h j s hs
  exact (World.cell?_of_block (hb.block b (lt_cell h1))).trans h1
/-- How many bytes. -/
def tot (ls : List Bs) : Nat := (ls.map List.length).sum
theorem tot_take {ls : List Bs} {k : Nat} {s : Bs} (h : ls[k]? = some s) : tot (ls.take (k + 1)) = tot (ls.take k) + s.length := by
  unfold tot
  rw [List.take_add_one, h]
  simp
theorem tot_le (ls : List Bs) (k : Nat) : tot (ls.take k) ≤ tot ls := by
  unfold tot
  conv => rhs; rw [← List.take_append_drop k ls]
  rw [List.map_append, List.sum_append]
  omega
/-- Why texts may not be looked for. -/
def fitN (ls : List Bs) : Nat := if 256 < ls.length then 5 else if 65536 < tot ls then 6 else 0
set_option maxRecDepth 100000 in
set_option maxHeartbeats 2000000 in
theorem ffits {w : World} {b off cap : Nat} {ls : List Bs} (h : TxtM w b off ls) (hl : ls.length ≤ 100000) (hs : ∀ s ∈ ls, s.length ≤ 100000) :
    Calls Try.prog 23 #[.slice (some ⟨b, off, none⟩) ls.length cap] w fun e w' => e = .returned (.int .i64 (fitN ls : Nat)) ∧ w = w' := by
  have HH := Lib.hid h
  have HS := Lib.hid hs
  clear h hs
  obtain ⟨N, hN⟩ : ∃ N, fitN ls = N := ⟨_, rfl⟩
  rw [hN]
  unfold fitN at hN
  by_cases h256 : 256 < ls.length
  · rw [if_pos h256] at hN
    subst hN
    go_enter Try.func23, Try.ntmps23
    go_wp2_with fail
    go_ret
    exact ⟨rfl, rfl⟩
  · rw [if_neg h256] at hN
    have HN := Lib.hid hN
    clear hN
    go_enter Try.func23, Try.ntmps23
    go_wp2_with fail
    go_loopw [3, 11] (fun x z wr => ∃ k : Nat, z = .int .i64 k ∧ x = .int .i64 (65536 - (tot (ls.take k) : Int)) ∧ k ≤ ls.length ∧ tot (ls.take k) ≤ 65536 ∧ wr = w) (fun _ z _ => ls.length - (intOf z).toNat)
    case atStart => exact ⟨0, rfl, by simp [tot], Nat.zero_le _, by simp [tot], rfl⟩
    case round =>
      obtain ⟨k, rfl, rfl, hk, ht, rfl⟩ := hrel
      by_cases hlt : k < ls.length
      · obtain ⟨s, hs⟩ : ∃ s, ls[k]? = some s := ⟨_, List.getElem?_eq_getElem hlt⟩
        have hc := HH.out k s hs
        have htt := tot_take hs
        have hsz := strOf_size s
        have hsl := HS.out s (List.mem_of_getElem? hs)
        obtain ⟨L, hL⟩ : ∃ L, s.length = L := ⟨_, rfl⟩
        obtain ⟨T, hT⟩ : ∃ T, tot (ls.take k) = T := ⟨_, rfl⟩
        rw [hL] at htt hsz hsl
        rw [hT] at htt ht ⊢
        have htl := tot_le ls (k + 1)
        have HT := Lib.hid htt
        have HTL := Lib.hid htl
        have kz : (k : Int) < (ls.length : Int) := by omega
        have k0 : (0 : Int) ≤ (k : Int) := by omega
        have e1 : IntKind.i64.wrap (65536 - (T : Int) - (L : Int)) = 65536 - (T : Int) - (L : Int) := IntWalk.i64_in _ (by omega)
        have e2 : IntKind.i64.wrap ((k : Int) + 1) = (k : Int) + 1 := IntWalk.i64_in _ (by omega)
        clear hs hL hT htt htl
        by_cases hneg : 65536 < T + L
        · have hn : 65536 - (T : Int) - (L : Int) < 0 := by omega
          go_wp2_with fail
          go_ret
          refine ⟨?_, rfl⟩
          have h1 := HN.out
          have h2 := HT.out
          have h3 := HTL.out
          rw [if_pos (by omega)] at h1
          rw [← h1]; rfl
        · have hn : ¬ 65536 - (T : Int) - (L : Int) < 0 := by omega
          go_wp2_with fail
          go_roundw
          case rel => exact ⟨k + 1, by go_num, by rw [HT.out]; congr 1; omega, hlt, by rw [HT.out]; omega, by first | trivial | rfl⟩
          case measure => simp [intOf]; omega
      · have hke : k = ls.length := by omega
        subst hke
        rw [List.take_length] at ht
        have HT := Lib.hid ht
        clear ht
        go_wp2_with fail
        go_ret
        refine ⟨?_, rfl⟩
        have h1 := HN.out
        have h2 := HT.out
        rw [if_neg (by omega)] at h1
        rw [← h1]; rfl
theorem cloneL {w : World} {b off cap : Nat} {ls : List Bs} (h : TxtM w b off ls) (hl : ls.length ≤ 100000) :
    Calls Try.prog 24 #[.slice (some ⟨b, off, none⟩) ls.length cap] w fun e w' => ∃ v', e = .returned v' ∧ w'.ownsRow w.heap.size 9 1 v' ls.length (strG ls) ∧ Below w.heap.size w w' := by
  have := Try.slices_Clone_string b off ls.length cap (ls.map strOf) w (by simp) (by omega) (fun j hj => by
    have hj2 : j < ls.length := by simpa using hj
    rw [h j _ (List.getElem?_eq_getElem hj2)]
    simp [List.getD_eq_getElem?_getD, List.getElem?_eq_getElem hj2])
  refine this.mono ?_
  rintro e w' ⟨v', h1, h2, _, h3⟩
  refine ⟨v', h1, ?_, h3⟩
  have e1 : ((ls.map strOf).take ls.length).map Value.string = strG ls := by
    rw [List.take_of_length_le (by simp)]
    simp [strG]
  rw [← e1]; exact h2
end Go.Proofs.Ytpjlkhdolhoeoaa
