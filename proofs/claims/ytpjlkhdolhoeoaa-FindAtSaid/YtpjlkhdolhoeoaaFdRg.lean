/- Walks: the document's first hit; why texts may not be looked for, both ways; New where they may not (chapter 03). -/
import Derived.Test.YtpjlkhdolhoeoaaFdRf
import Derived.Laws.ResultCell
namespace Go.Proofs.Ytpjlkhdolhoeoaa
open Go.Shelf Go.RowKit Go.Lib Go.Maps
set_option linter.unusedVariables false
set_option linter.unusedSimpArgs false
theorem hit_cellsR {w : World} {base g N cap : Nat} {l : List (Nat × Nat)} {k : Nat} {e : Nat × Nat} (h : w.ownsRow base 46 2 (.slice (some ⟨g, 0, none⟩) N cap) l.length (hitG l)) (hk : l[k]? = some e) :
    w.cell? ⟨g, k * 2, none⟩ = some (.int .i64 (e.1 : Int)) ∧ w.cell? ⟨g, k * 2 + 1, none⟩ = some (.int .i64 (e.2 : Int)) := by
  have h1 : ∀ j u, j < 2 → (hitV e)[j]? = some u → w.cell? ⟨g, k * 2 + j, none⟩ = some u := fun j u hj hu => by
    have := h.cells (g := g) rfl (k * 2 + j) u (by rw [hitG_at hk j hj]; exact hu)
    rwa [Addr.add_lit, Nat.zero_add] at this
  exact ⟨h1 0 _ (by omega) rfl, h1 1 _ (by omega) rfl⟩
set_option maxRecDepth 100000 in
set_option maxHeartbeats 4000000 in
theorem ffirstR {w : World} {b off cap : Nat} {ls : List Bs} (h : TxtM w b off ls) (hl : ls.length ≤ 100000) (hx : ∀ x ∈ ls, x.length ≤ 1000000) (s : Bs) (hs : s.length ≤ 1000000) (hsl : s.length * ls.length ≤ 1000000) (f : Int) :
    Calls Try.prog 20 #[.slice (some ⟨b, off, none⟩) ls.length cap, .string (strOf s), .int .i64 f] w fun e w' => e = .returned (fstV (fstH (hitsJ ls s) f)) ∧ Below w.heap.size w w' := by
  have hb1 : Below w.heap.size w (w.alloc (.cells #[.int .i64 0, .int .i64 0] 46)) := (Below.refl _ _).alloc (Nat.le_refl _) _
  have hbx := Blk.new w 46 #[.int .i64 0, .int .i64 0]
  have HH := Lib.hid (fhitsR (cap := cap) (h.keep hb1) hl hx s hs hsl)
  have HB1 := Lib.hid (And.intro hb1 hbx)
  have hlen := hitsJ_len ls s
  obtain ⟨n, hn⟩ : ∃ n, ls.length = n := ⟨_, rfl⟩
  obtain ⟨l, hll⟩ : ∃ l, hitsJ ls s = l := ⟨_, rfl⟩
  rw [hll] at HH hlen ⊢
  rw [hn] at HH ⊢
  have HLEN := Lib.hid (show l.length ≤ 1000000 by omega)
  clear hb1 hbx h hll hlen hsl hs hl hx hn
  go_enter Try.func20, Try.ntmps20
  go_upto_region 1 with fail
  generalize w.alloc (.cells #[.int .i64 0, .int .i64 0] 46) = w1 at HH HB1 ⊢
  go_wp2_with (go_at_call 18; refine HH.out.mono ?_; rintro e w2 ⟨v, rfl, hr, hb⟩; have HN := Lib.hid (And.intro hr hb); obtain ⟨o1, c1, rfl⟩ := own_shapeF hr; clear hr hb)
  have hst : Below w.heap.size w w2 ∧ Blk w2 w.heap.size 46 #[.int .i64 0, .int .i64 0] := ⟨HB1.out.1.trans (HN.out.2.mono HB1.out.1.size), HB1.out.2.below HN.out.2 HB1.out.2.lt⟩
  have HST := Lib.hid hst
  clear hst
  go_loopw [9] (fun z wr => ∃ i : Nat, z = .int .i64 i ∧ i ≤ l.length ∧ (∀ h ∈ l.take i, ¬ f ≤ (h.1 : Int)) ∧ Below w.heap.size w wr ∧ Blk wr w.heap.size 46 #[.int .i64 0, .int .i64 0] ∧ wr.ownsRow w1.heap.size 46 2 (.slice o1 l.length c1) l.length (hitG l)) (fun z _ => l.length - (intOf z).toNat)
  case atStart => exact ⟨0, rfl, Nat.zero_le _, by simp, HST.out.1, HST.out.2, HN.out.1⟩
  case round =>
    obtain ⟨i, rfl, hi, hno, hb, hk, hr⟩ := hrel
    by_cases hlt : i < l.length
    · obtain ⟨⟨a, k⟩, he⟩ : ∃ e, l[i]? = some e := ⟨_, List.getElem?_eq_getElem hlt⟩
      rcases hr.2 with ⟨_, h0⟩ | ⟨g, cap, cur, hvv, _⟩
      · omega
      simp only [Value.slice.injEq] at hvv
      obtain ⟨rfl, hq1, hq2⟩ := hvv
      clear hq1 hq2
      obtain ⟨l0, l1⟩ := hit_cellsR hr he
      simp only at l0 l1
      have i1 : (i : Int) < (l.length : Int) := by omega
      have i2 : (0 : Int) ≤ (i : Int) := by omega
      have e2 : IntKind.i64.wrap ((i : Int) + 1) = (i : Int) + 1 := IntWalk.i64_in _ (by have := HLEN.out; omega)
      have HR := Lib.hid (And.intro hb (And.intro hk hr))
      have HNO := Lib.hid hno
      have HEE := Lib.hid he
      have b0 := hk.cell 0
      have b1 := hk.cell 1
      have b2 := hk.frozen 0
      have b3 := hk.frozen 1
      clear hno hb hk hr he hi
      by_cases hfa : f ≤ (a : Int)
      · have HV := Lib.hid (fst_at HEE.out hfa HNO.out)
        have hk2 := (HR.out.2.1.set_ 0 (.int .i64 (a : Int))).set_ 1 (.int .i64 (k : Int))
        have g0 := hk2.cell 0
        have g1 := hk2.cell 1
        have HBB := Lib.hid (show Below w.heap.size w ((wr.setCell ⟨w.heap.size, 0, none⟩ (.int .i64 (a : Int))).setCell ⟨w.heap.size, 1, none⟩ (.int .i64 (k : Int))) from
          HR.out.1.trans ⟨rfl, rfl, rfl, by simp [World.setCell], fun j hj => (Below.heap_setCell _ ⟨w.heap.size, 1, none⟩ _ j (by simp only; omega)).trans (Below.heap_setCell wr ⟨w.heap.size, 0, none⟩ _ j (by simp only; omega))⟩)
        clear hk2
        go_wp2_with fail
        (try simp only [Exit.inBlock, Exit.then])
        refine bodyPost_ret (v := .tuple #[.agg #[.int .i64 (a : Int), .int .i64 (k : Int)], .bool true]) ?_ rfl ⟨by rw [HV.out]; rfl, ?_⟩
        · rw [results_cell_tmp rfl]
          go_simp
        · exact HBB.out
      · have HNO2 := Lib.hid (show ∀ h ∈ l.take (i + 1), ¬ f ≤ (h.1 : Int) by
          intro h hh
          rw [List.take_add_one, HEE.out] at hh
          rcases List.mem_append.1 hh with h1 | h1
          · exact HNO.out h h1
          · simp at h1; subst h1; exact hfa)
        go_wp2_with fail
        go_roundw
        case rel => exact ⟨i + 1, by go_num, hlt, HNO2.out, HR.out.1, HR.out.2.1, HR.out.2.2⟩
        case measure => simp [intOf]; omega
    · have hie : i = l.length := by omega
      subst hie
      rw [List.take_length] at hno
      have HV := Lib.hid (fst_none hno)
      have b0 := hk.cell 0
      have b1 := hk.cell 1
      have b2 := hk.frozen 0
      have b3 := hk.frozen 1
      have HB := Lib.hid (And.intro hb hk)
      have hk2 := (hk.set_ 0 (.int .i64 0)).set_ 1 (.int .i64 0)
      have g0 := hk2.cell 0
      have g1 := hk2.cell 1
      have HBB := Lib.hid (show Below w.heap.size w ((wr.setCell ⟨w.heap.size, 0, none⟩ (.int .i64 0)).setCell ⟨w.heap.size, 1, none⟩ (.int .i64 0)) from
        hb.trans ⟨rfl, rfl, rfl, by simp [World.setCell], fun j hj => (Below.heap_setCell _ ⟨w.heap.size, 1, none⟩ _ j (by simp only; omega)).trans (Below.heap_setCell wr ⟨w.heap.size, 0, none⟩ _ j (by simp only; omega))⟩)
      clear hno hb hk hr hlt hi hk2
      go_wp2_with fail
      (try simp only [Exit.inBlock, Exit.then])
      refine bodyPost_ret (v := .tuple #[.agg #[.int .i64 0, .int .i64 0], .bool false]) ?_ rfl ⟨by rw [HV.out]; rfl, ?_⟩
      · rw [results_cell_tmp rfl]
        go_simp
      · exact HBB.out
set_option maxRecDepth 100000 in
set_option maxHeartbeats 2000000 in
theorem ffitsR {w : World} {b off cap : Nat} {ls : List Bs} (h : TxtM w b off ls) (hl : ls.length ≤ 100000) (hs : ∀ s ∈ ls, s.length ≤ 100000) :
    Calls Try.prog 9 #[.slice (some ⟨b, off, none⟩) ls.length cap] w fun e w' => e = .returned (.int .i64 (fitN ls : Nat)) ∧ w = w' := by
  have HH := Lib.hid h
  have HS := Lib.hid hs
  clear h hs
  obtain ⟨N, hN⟩ : ∃ N, fitN ls = N := ⟨_, rfl⟩
  rw [hN]
  unfold fitN at hN
  by_cases h256 : 256 < ls.length
  · rw [if_pos h256] at hN
    subst hN
    go_enter Try.func9, Try.ntmps9
    go_wp2_with fail
    go_ret
    exact ⟨rfl, rfl⟩
  · rw [if_neg h256] at hN
    have HN := Lib.hid hN
    clear hN
    go_enter Try.func9, Try.ntmps9
    go_wp2_with fail
    go_loopw [3, 4] (fun x z wr => ∃ k : Nat, z = .int .i64 k ∧ x = .int .i64 (65536 - (tot (ls.take k) : Int)) ∧ k ≤ ls.length ∧ tot (ls.take k) ≤ 65536 ∧ wr = w) (fun _ z _ => ls.length - (intOf z).toNat)
    case atStart => exact ⟨0, rfl, by simp [tot], Nat.zero_le _, by simp [tot], rfl⟩
    case round =>
      obtain ⟨k, rfl, rfl, hk, ht, rfl⟩ := hrel
      by_cases hlt : k < ls.length
      · obtain ⟨s, hs⟩ : ∃ s, ls[k]? = some s := ⟨_, List.getElem?_eq_getElem hlt⟩
        have hc := HH.out k s hs
        have htt := tot_take hs
        have hsz := strOf_size s
        have hsl := HS.out s (List.mem_of_getElem? hs)
        obtain ⟨L, hL⟩ : ∃ L, s.length = L := ⟨_, rfl⟩
        obtain ⟨T, hT⟩ : ∃ T, tot (ls.take k) = T := ⟨_, rfl⟩
        rw [hL] at htt hsz hsl
        rw [hT] at htt ht ⊢
        have htl := tot_le ls (k + 1)
        have HT := Lib.hid htt
        have HTL := Lib.hid htl
        have kz : (k : Int) < (ls.length : Int) := by omega
        have k0 : (0 : Int) ≤ (k : Int) := by omega
        have e1 : IntKind.i64.wrap (65536 - (T : Int) - (L : Int)) = 65536 - (T : Int) - (L : Int) := IntWalk.i64_in _ (by omega)
        have e2 : IntKind.i64.wrap ((k : Int) + 1) = (k : Int) + 1 := IntWalk.i64_in _ (by omega)
        clear hs hL hT htt htl
        by_cases hneg : 65536 < T + L
        · have hn : 65536 - (T : Int) < (L : Int) := by omega
          go_wp2_with fail
          go_ret
          refine ⟨?_, rfl⟩
          have h1 := HN.out
          have h2 := HT.out
          have h3 := HTL.out
          rw [if_pos (by omega)] at h1
          rw [← h1]; rfl
        · have hn : ¬ 65536 - (T : Int) < (L : Int) := by omega
          go_wp2_with fail
          go_roundw
          case rel => exact ⟨k + 1, by go_num, by rw [HT.out]; congr 1; omega, hlt, by rw [HT.out]; omega, by first | trivial | rfl⟩
          case measure => simp [intOf]; omega
      · have hke : k = ls.length := by omega
        subst hke
        rw [List.take_length] at ht
        have HT := Lib.hid ht
        clear ht
        go_wp2_with fail
        go_ret
        refine ⟨?_, rfl⟩
        have h1 := HN.out
        have h2 := HT.out
        rw [if_neg (by omega)] at h1
        rw [← h1]; rfl
set_option maxRecDepth 100000 in
theorem fnewNo {w : World} {b off cap : Nat} {ls : List Bs} (h : TxtM w b off ls) (hl : ls.length ≤ 100000) (hs : ∀ s ∈ ls, s.length ≤ 100000) {N : Nat} (hN : fitN ls = N) (h0 : N ≠ 0) :
    Calls Try.prog 8 #[.slice (some ⟨b, off, none⟩) ls.length cap] w fun e w' => e = .returned (.tuple #[.pointer none, .int .i64 (N : Int)]) ∧ w = w' := by
  have HF := Lib.hid (ffits (cap := cap) h hl hs)
  rw [hN] at HF
  have hz : ((N : Int) != 0) = true := by simp; omega
  clear h hs hN h0 hl
  go_enter Try.func8, Try.ntmps8
  go_wp2_with (go_at_call 23; refine HF.out.mono ?_; rintro e w1 ⟨rfl, rfl⟩)
  (try simp only [Exit.inBlock, Exit.then])
  exact bodyPost_ret (v := .tuple #[.pointer none, .int .i64 (N : Int)]) (by simp [results, Try.f8, go_sem]) rfl ⟨rfl, rfl⟩
end Go.Proofs.Ytpjlkhdolhoeoaa
