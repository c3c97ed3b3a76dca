/- Walks: Blot (chapter 03). -/
import Derived.Test.YtpjlkhdolhoeoaaFdBlt
namespace Go.Proofs.Ytpjlkhdolhoeoaa
open Go.Shelf Go.RowKit Go.Lib Go.Maps
set_option linter.unusedVariables false
set_option linter.unusedSimpArgs false
theorem setR_snoc (by_ : UInt8) : ∀ (m : Nat) (X : Bs) (j : Nat), setR X j by_ (m + 1) = (setR X j by_ m).set (j + m) by_
  | 0, X, j => rfl
  | m + 1, X, j => by
    rw [setR, setR_snoc by_ m (X.set j by_) (j + 1), show j + 1 + m = j + (m + 1) by omega]
    rfl
theorem foldl_push : ∀ (l : Bs) (r : ByteArray), (l.map fun c => (c.toNat : Int)).foldl (fun r n => r.push (UInt8.ofNat n.toNat)) r = ⟨r.data ++ l.toArray⟩
  | [], r => by cases r; simp
  | c :: l, r => by
    rw [List.map_cons, List.foldl_cons, foldl_push l]
    cases r
    simp [ByteArray.push, Array.append_assoc]
theorem conv_back {w : World} {g cap : Nat} {X : Bs} (h : BytM w g X cap) (c : Nat) : Sem.run Try.prog (convert 24 9 (.slice (some ⟨g, 0, none⟩) X.length c)) w = .ok (.string (strOf X)) w := by
  have h1 : (loadCells ⟨g, 0, none⟩ X.length).run Try.prog w = .ok ((X.map fun c => (c.toNat : Int)).map (Value.int .u8)).toArray w := by
    have := run_loadCells_list (P := Try.prog) (w := w) ⟨g, 0, none⟩ ((X.map fun c => (c.toNat : Int)).map (Value.int .u8)) (fun j u hj => by
      rw [Addr.add_lit, Nat.zero_add]
      rw [List.getElem?_map, List.getElem?_map] at hj
      cases hx : X[j]? with
      | none => rw [hx] at hj; simp at hj
      | some c =>
        rw [hx] at hj
        simp at hj
        subst hj
        exact h.cell hx)
    simpa using this
  have h2 := run_bytesToString (P := Try.prog) w ⟨g, 0, none⟩ X.length c _ h1
  rw [foldl_push] at h2
  have e : (⟨ByteArray.empty.data ++ X.toArray⟩ : ByteArray) = strOf X := by
    have h0 : ByteArray.empty.data = #[] := rfl
    rw [h0]
    simp [strOf]
  rw [e] at h2
  unfold convert
  simp only [Sem.run_bind, run_underlying Try.underlying24, run_underlying Try.underlying9, Result.andThen]
  simp [Try.underlying5, run_underlying Try.underlying5, h2, Sem.run_bind, Result.andThen]
theorem hits_in {ls : List Bs} {s : Bs} {h : Nat × Nat} (hh : h ∈ hitsJ ls s) : h.2 < ls.length ∧ h.1 + (ls.getD h.2 []).length ≤ s.length := by
  obtain ⟨k, w⟩ := h
  obtain ⟨x, h1, h2, i, h3, h4, h5⟩ := hitsJ_mem.1 hh
  refine ⟨get_lt h1, ?_⟩
  have : ls.getD w [] = x := by rw [List.getD_eq_getElem?_getD, h1]; rfl
  simp only [this]
  omega
structure BlM (wS : World) (g cap : Nat) (X : Bs) (b1 : Nat) (v : Value) (l : List (Nat × Nat)) (wr : World) : Prop where
  bel : Below wS.heap.size wS wr
  gS : wS.heap.size ≤ g
  byt : BytM wr g X cap
  row : wr.ownsRow b1 45 2 v l.length (hitG l)
  gb : g < b1
section
variable {wS wr : World} {g cap b1 : Nat} {X : Bs} {v : Value} {l : List (Nat × Nat)}
theorem BlM.al (h : BlM wS g cap X b1 v l wr) (o : Obj) : BlM wS g cap X b1 v l (wr.alloc o) :=
  ⟨h.bel.alloc h.bel.size o, h.gS, h.byt.keep (Below.heap_alloc wr o g h.byt.lt), h.row.alloc o, h.gb⟩
theorem BlM.dr (h : BlM wS g cap X b1 v l wr) (n : Nat) : BlM wS g cap X b1 v l (wr.drewN n) := ⟨⟨h.bel.os, h.bel.tape, h.bel.output, h.bel.size, h.bel.block⟩, h.gS, h.byt, own_below h.row ⟨rfl, rfl, rfl, Nat.le_refl _, fun _ _ => rfl⟩, h.gb⟩
theorem BlM.set_ (h : BlM wS g cap X b1 v l wr) {j : Nat} (hj : j < X.length) (c : UInt8) : BlM wS g cap (X.set j c) b1 v l (wr.setCell ⟨g, j, none⟩ (.int .u8 (c.toNat : Int))) :=
  ⟨h.bel.trans ⟨rfl, rfl, rfl, by simp [World.setCell], fun k hk => Below.heap_setCell wr ⟨g, j, none⟩ _ k (by have := h.gS; simp only; omega)⟩, h.gS, h.byt.set_ hj c,
    own_keep h.row fun b hb hl => Below.heap_setCell wr ⟨g, j, none⟩ _ b (fun e => by have := (h.row.lt b hb).1; have := h.gb; simp only at e; omega), h.gb⟩
end
set_option maxRecDepth 100000 in
set_option maxHeartbeats 8000000 in
theorem fblot {w0 wS : World} {M : Nat} {ls : List Bs} (h : MadeM w0 M ls wS) (hls : ls.length ≤ 100000) (s : Bs) (hs : s.length ≤ 1000000) (hsl : s.length * ls.length ≤ 1000000) (by_ : UInt8) :
    Calls Try.prog 13 #[.pointer (some ⟨M, 0, none⟩), .string (strOf s), .int .u8 (by_.toNat : Int)] wS fun e w' =>
      e = .returned (.tuple #[.string (strOf (blotL ls by_ (hitsJ ls s) s).1), .int .i64 ((blotL ls by_ (hitsJ ls s) s).2.2 : Nat)]) ∧ Below wS.heap.size wS w' := by
  have hcv := fun W => run_bytes_of_string (P := Try.prog) W 9 24 5 (strOf s) Try.underlying9 Try.underlying24 Try.underlying5
  have hsz := strOf_size s
  have HIN := Lib.hid (fun h (hh : h ∈ hitsJ ls s) => hits_in hh)
  have hlen := hitsJ_len ls s
  have HM := Lib.hid h
  have HH := Lib.hid (fun (W : World) (hb : Below wS.heap.size wS W) => fhits (wS := W) (by
    obtain ⟨B, P, bk, E, evs, lv, sv, D, hbig, r⟩ := h
    exact ⟨B, P, bk, E, evs, lv, sv, D, hbig.bel_ hb, r⟩ : MadeM w0 M ls W) hls s hs hsl)
  obtain ⟨l, hl⟩ : ∃ l, hitsJ ls s = l := ⟨_, rfl⟩
  rw [hl] at HH HIN hlen ⊢
  have HLEN := Lib.hid (show l.length ≤ 1000000 by omega)
  clear h hl hlen hsl hls
  go_enter Try.func13, Try.ntmps13
  go_upto_region 3 with fail
  obtain ⟨cap, hcap⟩ : ∃ cap, grownCap wS s.length 0 5 = cap := ⟨_, rfl⟩
  have hcl : s.length ≤ cap := by rw [← hcap]; exact grownCap_ge _ _ _ _
  have hB := bytM_new wS s cap hcl
  have hb1 := (Below.refl wS.heap.size wS).alloc (Nat.le_refl _) (.cells (bytesRow (strOf s) cap) 5 ((bytesRow (strOf s) cap).size, (bytesRow (strOf s) cap).size + 1))
  rw [hcap]
  obtain ⟨g, hg⟩ : ∃ g, g = wS.heap.size := ⟨_, rfl⟩
  rw [← hg] at hB ⊢
  have hB' : BytM (wS.alloc (.cells (bytesRow (strOf s) cap) 5 ((bytesRow (strOf s) cap).size, (bytesRow (strOf s) cap).size + 1))).drew g s cap := hB
  have hb1' : Below wS.heap.size wS (wS.alloc (.cells (bytesRow (strOf s) cap) 5 ((bytesRow (strOf s) cap).size, (bytesRow (strOf s) cap).size + 1))).drew := ⟨hb1.os, hb1.tape, hb1.output, hb1.size, hb1.block⟩
  have HG := Lib.hid hg
  clear hB hb1 hcv hcap hg
  generalize (wS.alloc (.cells (bytesRow (strOf s) cap) 5 ((bytesRow (strOf s) cap).size, (bytesRow (strOf s) cap).size + 1))).drew = w1 at hB' hb1' ⊢
  have HB1 := Lib.hid (And.intro hB' hb1')
  clear hB' hb1'
  go_wp2_with (go_at_call 17; refine (HH.out _ HB1.out.2).mono ?_; rintro e w2 ⟨v, rfl, hr, hb⟩; have HN := Lib.hid (And.intro hr hb); obtain ⟨o1, c1, rfl⟩ := own_shapeF hr; clear hr hb)
  have hst : BlM wS g cap s w1.heap.size (.slice o1 l.length c1) l w2 := ⟨HB1.out.2.trans (HN.out.2.mono HB1.out.2.size), by rw [HG.out]; exact Nat.le_refl _, HB1.out.1.keep (HN.out.2.block g HB1.out.1.lt), HN.out.1, HB1.out.1.lt⟩
  have HST := Lib.hid hst
  clear hst
  go_loopw [9, 10, 20] (fun d n z wr => ∃ (i : Nat) (X : Bs) (dd nn : Nat), z = .int .i64 i ∧ i ≤ l.length ∧ d = .int .i64 dd ∧ n = .int .i64 nn ∧ blotL ls by_ (l.take i) s = (X, dd, nn) ∧ nn ≤ dd ∧ dd ≤ s.length ∧ X.length = s.length ∧ BlM wS g cap X w1.heap.size (.slice o1 l.length c1) l wr) (fun _ _ z _ => l.length - (intOf z).toNat)
  case atStart => exact ⟨0, s, 0, 0, rfl, Nat.zero_le _, rfl, rfl, rfl, Nat.le_refl _, Nat.zero_le _, rfl, HST.out⟩
  case round =>
    obtain ⟨i, X, dd, nn, rfl, hi, rfl, rfl, hbl, hnd, hds, hXl, hM⟩ := hrel
    by_cases hlt : i < l.length
    · obtain ⟨⟨a, k⟩, he⟩ : ∃ e, l[i]? = some e := ⟨_, List.getElem?_eq_getElem hlt⟩
      have hr := hM.row
      rcases hr.2 with ⟨_, h0⟩ | ⟨g1, cap1, cur1, hvv, _⟩
      · omega
      simp only [Value.slice.injEq] at hvv
      obtain ⟨rfl, hq1, hq2⟩ := hvv
      clear hq1 hq2
      obtain ⟨l0, l1⟩ := hit_cells hr he
      simp only at l0 l1
      have i1 : (i : Int) < (l.length : Int) := by omega
      have i2 : (0 : Int) ≤ (i : Int) := by omega
      have e2 : IntKind.i64.wrap ((i : Int) + 1) = (i : Int) + 1 := IntWalk.i64_in _ (by have := HLEN.out; omega)
      obtain ⟨hkl, hae⟩ := HIN.out _ (List.mem_of_getElem? he)
      simp only at hkl hae
      have htk : l.take (i + 1) = l.take i ++ [(a, k)] := by rw [List.take_add_one, he]; rfl
      have hnew : blotL ls by_ (l.take (i + 1)) s = blot1 ls by_ (X, dd, nn) (a, k) := by rw [htk, blotL_snoc, hbl]
      have HNEW := Lib.hid hnew
      obtain ⟨x, hx⟩ : ∃ x, ls[k]? = some x := ⟨_, List.getElem?_eq_getElem hkl⟩
      have hgd : ls.getD k [] = x := by rw [List.getD_eq_getElem?_getD, hx]; rfl
      rw [hgd] at hae
      have HX := Lib.hid (And.intro hx (And.intro hgd (And.intro hkl hae)))
      have HD := Lib.hid (And.intro hnd (And.intro hds hXl))
      have HMM := Lib.hid hM
      clear hM hr he hi hbl hnew htk hx hgd hkl hae hnd hds hXl
      go_upto_region 6 with fail
      have kx := Blk.new wr 45 #[.int .i64 (a : Int), .int .i64 (k : Int)]
      have hA := HMM.out.al (.cells #[.int .i64 (a : Int), .int .i64 (k : Int)] 45)
      have f0 := kx.cell 0
      have f1 := kx.cell 1
      obtain ⟨K, hK⟩ : ∃ K, K = wr.heap.size := ⟨_, rfl⟩
      rw [← hK] at f0 f1 kx ⊢
      have HKS := Lib.hid (show wS.heap.size ≤ K ∧ g ≠ K from ⟨by rw [hK]; exact HMM.out.bel.size, by have := HMM.out.byt.lt; omega⟩)
      have HA := Lib.hid (And.intro hA kx)
      clear kx hA l0 l1 hK
      generalize wr.alloc (.cells #[.int .i64 (a : Int), .int .i64 (k : Int)] 45) = w3 at f0 f1 HA ⊢
      obtain ⟨j0, hj0⟩ : ∃ j0, max a dd = j0 := ⟨_, rfl⟩
      have hmx : max (a : Int) (dd : Int) = (j0 : Int) := by omega
      have HJ := Lib.hid hj0
      clear hj0
      go_wp2_with fail
      go_loopw [9, 10, 13] (fun d n z wr => ∃ m : Nat, z = .int .i64 ((j0 + m : Nat) : Int) ∧ (m = 0 ∨ j0 + m ≤ a + x.length) ∧ d = .int .i64 ((if m = 0 then dd else j0 + m : Nat) : Int) ∧ n = .int .i64 ((nn + m : Nat) : Int) ∧
        BlM wS g cap (setR X j0 by_ m) w1.heap.size (.slice (some ⟨g1, 0, none⟩) l.length c1) l wr ∧ Blk wr K 45 #[.int .i64 (a : Int), .int .i64 (k : Int)]) (fun _ _ z _ => a + x.length - (intOf z).toNat)
      case atStart => exact ⟨0, by simp, .inl rfl, by simp, by simp, HA.out.1, HA.out.2⟩
      case round =>
        obtain ⟨m, rfl, hme, rfl, rfl, hB, hk⟩ := hrel
        obtain ⟨B, P, bk, E, evs, lv, sv, D, hbig0, _⟩ := HM.out
        have hbig := hbig0.bel_ hB.bel
        have hkl := HX.out.2.2.1
        have htx := hbig.tx
        obtain ⟨lo, lc, rfl⟩ := own_shapeF htx
        have m0 : wr.cell? ⟨M, 0, none⟩ = some (.slice lo ls.length lc) := hbig.m.cell 0
        rcases htx.2 with ⟨_, h0⟩ | ⟨g2, cap2, cur2, hvv, _⟩
        · omega
        simp only [Value.slice.injEq] at hvv
        obtain ⟨rfl, hq1, hq2⟩ := hvv
        clear hq1 hq2
        have t0 : wr.cell? ⟨g2, k, none⟩ = some (.string (strOf x)) := by
          have := htx.cells (g := g2) rfl k (.string (strOf x)) (by simp [strG, HX.out.1])
          rwa [Addr.add_lit, Nat.zero_add] at this
        have hXs := strOf_size x
        obtain ⟨Y, hY⟩ : ∃ Y, strOf x = Y := ⟨_, rfl⟩
        obtain ⟨L, hL⟩ : ∃ L, x.length = L := ⟨_, rfl⟩
        rw [hY, hL] at hXs
        rw [hY] at t0
        rw [hL] at hme ⊢
        have hae := HX.out.2.2.2
        rw [hL] at hae
        have f0 := hk.cell 0
        have f1 := hk.cell 1
        have k1 : (k : Int) < (ls.length : Int) := by omega
        have k2 : (0 : Int) ≤ (k : Int) := by omega
        have e5 : IntKind.i64.wrap ((a : Int) + (L : Int)) = (a : Int) + (L : Int) := IntWalk.i64_in _ (by omega)
        have HBB := Lib.hid (And.intro hB hk)
        have HLL := Lib.hid (And.intro hL hae)
        obtain ⟨d1, hd1⟩ : ∃ d1, (if m = 0 then dd else j0 + m : Nat) = d1 := ⟨_, rfl⟩
        rw [hd1]
        have HD1 := Lib.hid hd1
        obtain ⟨z1, hz1⟩ : ∃ z1, j0 + m = z1 := ⟨_, rfl⟩
        obtain ⟨n1, hn1⟩ : ∃ n1, nn + m = n1 := ⟨_, rfl⟩
        have hjm : j0 ≤ s.length + dd := by have := HJ.out; omega
        have hxl2 : (setR X j0 by_ m).length = s.length := by rw [setR_len]; exact HD.out.2.2
        have hnb := HD.out.1
        have hdb := HD.out.2.1
        have HZZ := Lib.hid (And.intro hz1 hn1)
        have q0 : (0 : Int) ≤ (z1 : Int) := by omega
        by_cases hin : z1 < a + L
        · have q1 : (z1 : Int) < (a : Int) + (L : Int) := by omega
          have q2 : (z1 : Int) < (s.length : Int) := by omega
          have e6 : IntKind.i64.wrap ((z1 : Int) + 1) = (z1 : Int) + 1 := IntWalk.i64_in _ (by omega)
          have e7 : IntKind.i64.wrap ((n1 : Int) + 1) = (n1 : Int) + 1 := IntWalk.i64_in _ (by omega)
          obtain ⟨oc, hoc⟩ : ∃ c, (setR X j0 by_ m)[z1]? = some c := ⟨_, List.getElem?_eq_getElem (by rw [hxl2]; omega)⟩
          have bc := hB.byt.cell hoc
          have bf := hB.byt.froz (j := z1) (by rw [hxl2]; omega)
          have HLT := Lib.hid (show z1 < (setR X j0 by_ m).length ∧ z1 + 1 ≤ a + L by rw [hxl2]; omega)
          clear hbig hbig0 htx hY hL hae hB hk hd1 hjm hxl2 hnb hdb hoc hkl hme
          rw [hz1, hn1]
          clear hz1 hn1
          go_upto_region 7 with fail
          go_quiet (fail)
          go_wp2_with fail
          go_roundw
          case rel =>
            refine ⟨m + 1, by rw [← HZZ.out.1]; go_num, .inr ?_, ?_, ?_, ?_, ?_⟩
            · have := HLT.out.2; have := HZZ.out.1; have := HLL.out.1; omega
            · rw [if_neg (by omega), ← HZZ.out.1]; go_num
            · rw [← HZZ.out.2]; go_num
            · rw [setR_snoc, HZZ.out.1]; exact (HBB.out.1.dr _).set_ HLT.out.1 by_
            · exact (HBB.out.2.drewN _).far (p := ⟨g, z1, none⟩) (fun e => HKS.out.2 e.symm) _
          case measure => have := HLT.out.2; have := HLL.out.1; simp [intOf]; omega
        · have q1 : ¬ (z1 : Int) < (a : Int) + (L : Int) := by omega
          have hfin : blot1 ls by_ (X, dd, nn) (a, k) = (setR X j0 by_ m, d1, n1) ∧ n1 ≤ d1 ∧ d1 ≤ s.length := by
            have hj := HJ.out
            unfold blot1
            simp only
            rw [HX.out.2.1, hL, hj]
            by_cases hm0 : m = 0
            · subst hm0
              rw [if_neg (by omega), ← hd1, ← hn1, if_pos rfl]
              exact ⟨rfl, by omega, by omega⟩
            · rw [if_neg hm0] at hd1
              have hz2 : z1 = a + L := by rcases hme with h | h <;> omega
              rw [if_pos (by omega), ← hd1, ← hn1]
              rw [show a + L - j0 = m by omega, show a + L = j0 + m by omega]
              exact ⟨rfl, by omega, by omega⟩
          have HFIN := Lib.hid hfin
          have HNN := Lib.hid (show blotL ls by_ (l.take (i + 1)) s = (setR X j0 by_ m, d1, n1) from HNEW.out.trans hfin.1)
          have HSL := Lib.hid hxl2
          clear hbig hbig0 htx hY hL hae hB hk hd1 hjm hxl2 hnb hdb hkl hme hfin hin
          rw [hz1, hn1]
          clear hz1 hn1
          go_upto_region 7 with fail
          go_quiet (fail)
          go_wp2_with fail
          go_roundw
          case rel => exact ⟨i + 1, _, d1, n1, by go_num, hlt, rfl, rfl, HNN.out, HFIN.out.2.1, HFIN.out.2.2, HSL.out, HBB.out.1.dr _⟩
          case measure => simp [intOf]; omega
    · have hie : i = l.length := by omega
      subst hie
      rw [List.take_length] at hbl
      have hcb := fun c => conv_back hM.byt c
      rw [hXl] at hcb
      have HF := Lib.hid (And.intro hbl hM.bel)
      clear hbl hM hlt hi hnd hds hXl
      go_wp2_with fail
      go_ret2
      exact ⟨by rw [HF.out.1]; rfl, HF.out.2⟩
end Go.Proofs.Ytpjlkhdolhoeoaa
