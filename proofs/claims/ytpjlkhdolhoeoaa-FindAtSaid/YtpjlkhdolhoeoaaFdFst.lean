/- Walks: First (chapter 03). -/
import Derived.Test.YtpjlkhdolhoeoaaFdHas
import Derived.Laws.ResultCell
namespace Go.Proofs.Ytpjlkhdolhoeoaa
open Go.Shelf Go.RowKit Go.Lib Go.Maps
set_option linter.unusedVariables false
set_option linter.unusedSimpArgs false
theorem hitG_at {l : List (Nat × Nat)} {k : Nat} {e : Nat × Nat} (h : l[k]? = some e) : ∀ j, j < 2 → (hitG l)[k * 2 + j]? = (hitV e)[j]? := by
  unfold hitG
  induction l generalizing k with
  | nil => simp at h
  | cons x r ih =>
    intro j hj
    cases k with
    | zero =>
      simp at h
      subst h
      rw [List.flatMap_cons, List.getElem?_append_left (by simp [hitV]; omega), Nat.zero_mul, Nat.zero_add]
    | succ k =>
      have h2 := ih (by simpa using h) j hj
      rw [List.flatMap_cons, List.getElem?_append_right (by simp [hitV]; omega)]
      rw [← h2]
      congr 1
      simp [hitV]; omega
theorem hit_cells {w : World} {base g N cap : Nat} {l : List (Nat × Nat)} {k : Nat} {e : Nat × Nat} (h : w.ownsRow base 45 2 (.slice (some ⟨g, 0, none⟩) N cap) l.length (hitG l)) (hk : l[k]? = some e) :
    w.cell? ⟨g, k * 2, none⟩ = some (.int .i64 (e.1 : Int)) ∧ w.cell? ⟨g, k * 2 + 1, none⟩ = some (.int .i64 (e.2 : Int)) := by
  have h1 : ∀ j u, j < 2 → (hitV e)[j]? = some u → w.cell? ⟨g, k * 2 + j, none⟩ = some u := fun j u hj hu => by
    have := h.cells (g := g) rfl (k * 2 + j) u (by rw [hitG_at hk j hj]; exact hu)
    rwa [Addr.add_lit, Nat.zero_add] at this
  exact ⟨h1 0 _ (by omega) rfl, h1 1 _ (by omega) rfl⟩
/-- The first one from a place on. -/
def fstH (l : List (Nat × Nat)) (from_ : Int) : Option (Nat × Nat) := l.find? fun h => decide (from_ ≤ (h.1 : Int))
def fstV (o : Option (Nat × Nat)) : Value := match o with | some h => .tuple #[.agg #[.int .i64 (h.1 : Int), .int .i64 (h.2 : Int)], .bool true] | none => .tuple #[.agg #[.int .i64 0, .int .i64 0], .bool false]
theorem fst_at {l : List (Nat × Nat)} {f : Int} {k : Nat} {e : Nat × Nat} (hk : l[k]? = some e) (he : f ≤ (e.1 : Int)) (hn : ∀ h ∈ l.take k, ¬ f ≤ (h.1 : Int)) : fstH l f = some e := by
  unfold fstH
  have h1 : l = l.take k ++ e :: l.drop (k + 1) := by
    have h2 := get_lt hk
    have h3 : l[k] = e := by have := List.getElem?_eq_getElem h2; rw [hk] at this; exact (Option.some.inj this).symm
    rw [← h3, ← List.drop_eq_getElem_cons h2, List.take_append_drop]
  rw [h1, List.find?_append]
  rw [List.find?_eq_none.2 (by intro x hx; simpa using hn x hx)]
  simp [he]
theorem fst_none {l : List (Nat × Nat)} {f : Int} (hn : ∀ h ∈ l, ¬ f ≤ (h.1 : Int)) : fstH l f = none := by
  unfold fstH
  rw [List.find?_eq_none]
  intro x hx; simpa using hn x hx
set_option maxRecDepth 100000 in
set_option maxHeartbeats 4000000 in
theorem ffirst {w0 wS : World} {M : Nat} {ls : List Bs} (h : MadeM w0 M ls wS) (hls : ls.length ≤ 100000) (s : Bs) (hs : s.length ≤ 1000000) (hsl : s.length * ls.length ≤ 1000000) (f : Int) :
    Calls Try.prog 19 #[.pointer (some ⟨M, 0, none⟩), .string (strOf s), .int .i64 f] wS fun e w' => e = .returned (fstV (fstH (hitsJ ls s) f)) ∧ Below wS.heap.size wS w' := by
  have hb1 : Below wS.heap.size wS (wS.alloc (.cells #[.int .i64 0, .int .i64 0] 45)) := (Below.refl _ _).alloc (Nat.le_refl _) _
  have hbx := Blk.new wS 45 #[.int .i64 0, .int .i64 0]
  have hm1 : MadeM w0 M ls (wS.alloc (.cells #[.int .i64 0, .int .i64 0] 45)) := by
    obtain ⟨B, P, bk, E, evs, lv, sv, D, hbig, r⟩ := h
    exact ⟨B, P, bk, E, evs, lv, sv, D, hbig.bel_ hb1, r⟩
  have HH := Lib.hid (fhits hm1 hls s hs hsl)
  have HB1 := Lib.hid (And.intro hb1 hbx)
  have hlen := hitsJ_len ls s
  obtain ⟨l, hl⟩ : ∃ l, hitsJ ls s = l := ⟨_, rfl⟩
  rw [hl] at HH hlen ⊢
  have HLEN := Lib.hid (show l.length ≤ 1000000 by omega)
  clear hb1 hbx hm1 h hl hlen hsl hs hls
  go_enter Try.func19, Try.ntmps19
  go_upto_region 1 with fail
  generalize wS.alloc (.cells #[.int .i64 0, .int .i64 0] 45) = w1 at HH HB1 ⊢
  go_wp2_with (go_at_call 17; refine HH.out.mono ?_; rintro e w2 ⟨v, rfl, hr, hb⟩; have HN := Lib.hid (And.intro hr hb); obtain ⟨o1, c1, rfl⟩ := own_shapeF hr; clear hr hb)
  have hst : Below wS.heap.size wS w2 ∧ Blk w2 wS.heap.size 45 #[.int .i64 0, .int .i64 0] := ⟨HB1.out.1.trans (HN.out.2.mono HB1.out.1.size), HB1.out.2.below HN.out.2 HB1.out.2.lt⟩
  have HST := Lib.hid hst
  clear hst
  go_loopw [14] (fun z wr => ∃ i : Nat, z = .int .i64 i ∧ i ≤ l.length ∧ (∀ h ∈ l.take i, ¬ f ≤ (h.1 : Int)) ∧ Below wS.heap.size wS wr ∧ Blk wr wS.heap.size 45 #[.int .i64 0, .int .i64 0] ∧ wr.ownsRow w1.heap.size 45 2 (.slice o1 l.length c1) l.length (hitG l)) (fun z _ => l.length - (intOf z).toNat)
  case atStart => exact ⟨0, rfl, Nat.zero_le _, by simp, HST.out.1, HST.out.2, HN.out.1⟩
  case round =>
    obtain ⟨i, rfl, hi, hno, hb, hk, hr⟩ := hrel
    by_cases hlt : i < l.length
    · obtain ⟨⟨a, k⟩, he⟩ : ∃ e, l[i]? = some e := ⟨_, List.getElem?_eq_getElem hlt⟩
      rcases hr.2 with ⟨_, h0⟩ | ⟨g, cap, cur, hvv, _⟩
      · omega
      simp only [Value.slice.injEq] at hvv
      obtain ⟨rfl, hq1, hq2⟩ := hvv
      clear hq1 hq2
      obtain ⟨l0, l1⟩ := hit_cells hr he
      simp only at l0 l1
      have i1 : (i : Int) < (l.length : Int) := by omega
      have i2 : (0 : Int) ≤ (i : Int) := by omega
      have e2 : IntKind.i64.wrap ((i : Int) + 1) = (i : Int) + 1 := IntWalk.i64_in _ (by have := HLEN.out; omega)
      have HR := Lib.hid (And.intro hb (And.intro hk hr))
      have HNO := Lib.hid hno
      have HEE := Lib.hid he
      clear hno hb hk hr he hi
      go_upto_region 4 with fail
      have kx := Blk.new wr 45 #[.int .i64 (a : Int), .int .i64 (k : Int)]
      have hbA := HR.out.1.alloc HR.out.1.size (.cells #[.int .i64 (a : Int), .int .i64 (k : Int)] 45)
      have hkA := HR.out.2.1.alloc (.cells #[.int .i64 (a : Int), .int .i64 (k : Int)] 45)
      have hrA := HR.out.2.2.alloc (.cells #[.int .i64 (a : Int), .int .i64 (k : Int)] 45)
      have f0 := kx.cell 0
      have f1 := kx.cell 1
      have b0 := hkA.cell 0
      have b1 := hkA.cell 1
      have b2 := hkA.frozen 0
      have b3 := hkA.frozen 1
      have HA := Lib.hid (And.intro hbA (And.intro hkA hrA))
      obtain ⟨K, hK⟩ : ∃ K, K = wr.heap.size := ⟨_, rfl⟩
      rw [← hK] at f0 f1 ⊢
      clear kx hbA hkA hrA l0 l1 hK
      generalize wr.alloc (.cells #[.int .i64 (a : Int), .int .i64 (k : Int)] 45) = w3 at f0 f1 b0 b1 b2 b3 HA ⊢
      by_cases hfa : f ≤ (a : Int)
      · have HV := Lib.hid (fst_at HEE.out hfa HNO.out)
        have hk2 := (HA.out.2.1.set_ 0 (.int .i64 (a : Int))).set_ 1 (.int .i64 (k : Int))
        have g0 := hk2.cell 0
        have g1 := hk2.cell 1
        have HBB := Lib.hid (show Below wS.heap.size wS ((w3.setCell ⟨wS.heap.size, 0, none⟩ (.int .i64 (a : Int))).setCell ⟨wS.heap.size, 1, none⟩ (.int .i64 (k : Int))) from
          HA.out.1.trans ⟨rfl, rfl, rfl, by simp [World.setCell], fun j hj => (Below.heap_setCell _ ⟨wS.heap.size, 1, none⟩ _ j (by simp only; omega)).trans (Below.heap_setCell w3 ⟨wS.heap.size, 0, none⟩ _ j (by simp only; omega))⟩)
        clear hk2
        go_wp2_with fail
        (try simp only [Exit.inBlock, Exit.then])
        refine bodyPost_ret (v := .tuple #[.agg #[.int .i64 (a : Int), .int .i64 (k : Int)], .bool true]) ?_ rfl ⟨by rw [HV.out]; rfl, ?_⟩
        · rw [results_cell_tmp rfl]
          go_simp
        · exact HBB.out
      · have HNO2 := Lib.hid (show ∀ h ∈ l.take (i + 1), ¬ f ≤ (h.1 : Int) by
          intro h hh
          rw [List.take_add_one, HEE.out] at hh
          rcases List.mem_append.1 hh with h1 | h1
          · exact HNO.out h h1
          · simp at h1; subst h1; exact hfa)
        go_wp2_with fail
        go_roundw
        case rel => exact ⟨i + 1, by go_num, hlt, HNO2.out, HA.out.1, HA.out.2.1, HA.out.2.2⟩
        case measure => simp [intOf]; omega
    · have hie : i = l.length := by omega
      subst hie
      rw [List.take_length] at hno
      have HV := Lib.hid (fst_none hno)
      have b0 := hk.cell 0
      have b1 := hk.cell 1
      have b2 := hk.frozen 0
      have b3 := hk.frozen 1
      have HB := Lib.hid (And.intro hb hk)
      have hk2 := (hk.set_ 0 (.int .i64 0)).set_ 1 (.int .i64 0)
      have g0 := hk2.cell 0
      have g1 := hk2.cell 1
      have HBB := Lib.hid (show Below wS.heap.size wS ((wr.setCell ⟨wS.heap.size, 0, none⟩ (.int .i64 0)).setCell ⟨wS.heap.size, 1, none⟩ (.int .i64 0)) from
        hb.trans ⟨rfl, rfl, rfl, by simp [World.setCell], fun j hj => (Below.heap_setCell _ ⟨wS.heap.size, 1, none⟩ _ j (by simp only; omega)).trans (Below.heap_setCell wr ⟨wS.heap.size, 0, none⟩ _ j (by simp only; omega))⟩)
      clear hno hb hk hr hlt hi hk2
      go_wp2_with fail
      (try simp only [Exit.inBlock, Exit.then])
      refine bodyPost_ret (v := .tuple #[.agg #[.int .i64 0, .int .i64 0], .bool false]) ?_ rfl ⟨by rw [HV.out]; rfl, ?_⟩
      · rw [results_cell_tmp rfl]
        go_simp
      · exact HBB.out
end Go.Proofs.Ytpjlkhdolhoeoaa
