/- Walks: the law's its (chapter 11). -/
import Derived.Test.YtlogjghbdnaedaaTgCp
import Derived.Test.YtlogjghbdnaedaaTgM
namespace Go.Proofs.Ytlogjghbdnaedaa
open Go.RowKit
set_option linter.unusedVariables false
set_option linter.unusedSimpArgs false
theorem infoGR : (Try.prog.info? 34).map (fun i => (i.zero, i.size, i.bytes)) = some (some zeroGT, 6, 80) := by kernel_rfl
theorem infoAR : (Try.prog.info? 58).map (fun i => (i.zero, i.size, i.bytes)) = some (some zeroA, 4, 48) := by kernel_rfl
set_option maxRecDepth 100000 in
set_option maxHeartbeats 16000000 in
theorem its_any (ts : List Tg) (ok : Nat → Prop) (pl : Bool) (v0 : Value) (w : World) (ht : TgsV w ok pl ts v0) (hl : ts.length ≤ 1000000) (hal : ∀ t ∈ ts, t.atts.length * 48 ≤ 140737488351232) :
    Calls Try.prog 10 #[v0] w fun e w' => (∃ v, e = .returned v ∧ TgsV w' (fun b => w.heap.size ≤ b) pl ts v) ∧ Below w.heap.size w w' := by
  obtain ⟨a0, p0, rfl⟩ := tgsV_len ht
  have HT := Lib.hid ht
  have HAL := Lib.hid hal
  clear ht hal
  go_enter Try.func10, Try.ntmps10
  go_wp2_with fail
  go_loopw [3, 4] (fun v z wr => ∃ (i : Nat) (cs : List Value), z = .int .i64 i ∧ i ≤ ts.length ∧ CpT 34 w v pl (ts.take i) cs wr) (fun _ z _ => ts.length - (intOf z).toNat)
  case atStart => exact ⟨0, [], rfl, Nat.zero_le _, ⟨⟨by simp, .inr ⟨w.heap.size, 0, #[], rfl, Nat.le_refl _, World.alloc_heap_new _ _, by simp⟩⟩, rfl, (Below.refl _ w).alloc (Nat.le_refl _) _⟩⟩
  case round =>
    obtain ⟨wo, rfl⟩ : ∃ wo, wo = wr := ⟨_, rfl⟩
    obtain ⟨i, cs, rfl, hi, hm⟩ := hrel
    have HM := Lib.hid hm
    obtain ⟨ov, mv, cv, rfl⟩ := own_shapeT hm.ow
    clear hm
    by_cases hlt : i < ts.length
    · obtain ⟨t, htk⟩ : ∃ t, ts[i]? = some t := ⟨_, List.getElem?_eq_getElem hlt⟩
      obtain ⟨g, o, cap, d, e, f, hv, hgl, p0', p1, p2, p3, p4, p5, hpl, ds, hrow, hac⟩ := tg_at HT.out htk HM.out.bel
      simp only [Value.slice.injEq] at hv
      obtain ⟨rfl, _, rfl⟩ := hv
      obtain ⟨x4, x5, rfl, rfl, hxy⟩ := hpl
      obtain ⟨ra, rc, rfl⟩ := rowG_len hrow
      have hatl := HAL.out t (mem_get htk)
      have hgr : g < wo.heap.size := Nat.lt_of_lt_of_le hgl HM.out.bel.size
      have HTK := Lib.hid htk
      have HXY := Lib.hid hxy
      have HRW := Lib.hid hrow
      have HAC := Lib.hid hac
      clear htk hxy hrow hac
      obtain ⟨n, hn⟩ : ∃ n, strOf t.name = n := ⟨_, rfl⟩
      obtain ⟨n2, hn2⟩ : ∃ n, strOf t.text = n := ⟨_, rfl⟩
      obtain ⟨q, hq⟩ : ∃ q, t.kind = q := ⟨_, rfl⟩
      rw [hn] at p1
      rw [hn2] at p2
      rw [hq] at p0'
      have HN := Lib.hid hn
      have HN2 := Lib.hid hn2
      have HQ := Lib.hid hq
      clear hn hn2 hq
      have K1 : ∀ w', Below wo.heap.size wo w' → w'.cell? ⟨g, o + i * 6, none⟩ = some (.int .u8 q) ∧ w'.cell? ⟨g, o + i * 6 + 1, none⟩ = some (.string n) ∧ w'.cell? ⟨g, o + i * 6 + 2, none⟩ = some (.string n2) ∧ w'.cell? ⟨g, o + i * 6 + 4, none⟩ = some (.int .i64 x4) ∧ w'.cell? ⟨g, o + i * 6 + 5, none⟩ = some (.int .i64 x5) :=
        fun w' h => ⟨(h.cell (p := ⟨g, o + i * 6, none⟩) hgr).trans p0', (h.cell (p := ⟨g, o + i * 6 + 1, none⟩) hgr).trans p1, (h.cell (p := ⟨g, o + i * 6 + 2, none⟩) hgr).trans p2, (h.cell (p := ⟨g, o + i * 6 + 4, none⟩) hgr).trans p4, (h.cell (p := ⟨g, o + i * 6 + 5, none⟩) hgr).trans p5⟩
      have HK1 := Lib.hid K1
      have HP3 : Hid (∀ w', Below wo.heap.size wo w' → w'.cell? ⟨g, o + i * 6 + 3, none⟩ = some (.slice ra t.atts.length rc)) := fun w' h => (h.cell (p := ⟨g, o + i * 6 + 3, none⟩) hgr).trans p3
      clear K1 p0' p1 p2 p3 p4 p5
      go_upto_region 5 with fail
      go_region_held3 (fun w' => w'.cell? ⟨g, o + i * 6, none⟩ = some (.int .u8 q) ∧ w'.cell? ⟨g, o + i * 6 + 1, none⟩ = some (.string n) ∧ w'.cell? ⟨g, o + i * 6 + 2, none⟩ = some (.string n2) ∧ w'.cell? ⟨g, o + i * 6 + 4, none⟩ = some (.int .i64 x4) ∧ w'.cell? ⟨g, o + i * 6 + 5, none⟩ = some (.int .i64 x5)) (first | exact HK1.out _ (Below.refl _ _) | exact HK1.out _ (below_drewT (Below.refl _ _)) | exact HK1.out _ (below_drewT ((Below.refl _ _).alloc (Nat.le_refl _) _)) | exact HK1.out _ ((below_drewT (Below.refl _ _)).alloc (Nat.le_refl _) _)) (fail)
      have hA0 : CpA 58 34 wo wo.heap.size q n n2 (.int .i64 x4) (.int .i64 x5) (.slice none 0 0) pl [] [] (World.drew (wo.alloc (.cells #[.int .u8 q, .string n, .string n2, .slice none 0 0, .int .i64 x4, .int .i64 x5] 34))) :=
        ⟨Nat.le_refl _, (Blk.new wo 34 _).drew, World.ownsRow_nil _ _ _ _, rfl, below_drewT ((Below.refl _ _).alloc (Nat.le_refl _) _)⟩
      have HA0 := Lib.hid hA0
      clear hA0 HK1
      obtain ⟨T, hT⟩ : ∃ T, wo.heap.size = T := ⟨_, rfl⟩
      obtain ⟨W5, hW5⟩ : ∃ W5, World.drew (wo.alloc (.cells #[.int .u8 q, .string n, .string n2, .slice none 0 0, .int .i64 x4, .int .i64 x5] 34)) = W5 := ⟨_, rfl⟩
      rw [hW5] at HA0 ⊢
      have HTE := Lib.hid hT
      rw [hT] at HA0 HP3 hgr ⊢
      clear hW5 hT
      go_wp2_with fail
      go_loopw [6] (fun z wr => ∃ (k : Nat) (v : Value) (es : List Value), z = .int .i64 k ∧ k ≤ t.atts.length ∧ CpA 58 34 wo T q n n2 (.int .i64 x4) (.int .i64 x5) v pl (t.atts.take k) es wr) (fun z _ => t.atts.length - (intOf z).toNat)
      case atStart => exact ⟨0, _, [], rfl, Nat.zero_le _, HA0.out⟩
      case round =>
        obtain ⟨k, v, es, rfl, hk, ha⟩ := hrel
        have HA := Lib.hid ha
        clear ha HA0
        have p3 := HP3.out wr (by rw [← HTE.out]; exact HA.out.bel)
        by_cases hkl : k < t.atts.length
        · obtain ⟨a, hak⟩ : ∃ a, t.atts[k]? = some a := ⟨_, List.getElem?_eq_getElem hkl⟩
          obtain ⟨ga, oa, capa, ea, fa, hva, hgal, b0, b1, b2, b3, hpa⟩ := att_at HRW.out HAC.out hak HA.out.bel
          simp only [Value.slice.injEq] at hva
          obtain ⟨rfl, _, rfl⟩ := hva
          obtain ⟨y2, y3, rfl, rfl, hy⟩ := hpa
          have HPA : Hid (PlG pl a.frm a.to (.int .i64 y2) (.int .i64 y3)) := ⟨y2, y3, rfl, rfl, hy⟩
          obtain ⟨an, han⟩ : ∃ an, strOf a.name = an := ⟨_, rfl⟩
          obtain ⟨av, hav⟩ : ∃ av, strOf a.val = av := ⟨_, rfl⟩
          rw [han] at b0
          rw [hav] at b1
          have HAN := Lib.hid han
          have HAV := Lib.hid hav
          have HAK := Lib.hid hak
          clear han hav hak hy
          have HM9 := Lib.hid (HA.out.al (.cells #[.string an, .string av, .int .i64 y2, .int .i64 y3] 47))
          have HD9 := Lib.hid (Blk.new wr 47 #[.string an, .string av, .int .i64 y2, .int .i64 y3])
          obtain ⟨o6, m6, c6, rfl⟩ := own_shapeT HA.out.ow
          go_upto_region 10 with fail
          generalize hW9 : wr.alloc (.cells #[.string an, .string av, .int .i64 y2, .int .i64 y3] 47) = w9 at *
          generalize hD9 : wr.heap.size = D at *
          clear hW9 hD9 HA b0 b1 b2 b3 p3
          obtain ⟨i0, hi0, hz0, hz1, hz2⟩ := info_parts infoAR
          have htl : (t.atts.take k).length = k := take_len hk
          have t3 : w9.cell? ⟨T, 3, none⟩ = some (.slice o6 m6 c6) := HM9.out.k.cell 3
          have d0 := HD9.out.cell 0
          have d1 := HD9.out.cell 1
          have d2 := HD9.out.cell 2
          have d3 := HD9.out.cell 3
          have e3 : (t.atts.take k).length + 1 ≤ maxLen := by unfold maxLen; omega
          have e4 : ((t.atts.take k).length + 1) * 48 ≤ 140737488355328 := by omega
          have e5 : T + 1 ≤ (w9.alloc (.cells #[.string an, .string av, .int .i64 y2, .int .i64 y3] 58)).heap.size := by have := HM9.out.k.lt; simp; omega
          have hnc := HM9.out.ow.alloc (.cells #[.string an, .string av, .int .i64 y2, .int .i64 y3] 58)
          have HTL := Lib.hid htl
          clear htl
          go_wp2_with (at_builtin; refine wpList_append_lies _ rfl _ _ 32 rfl (T + 1) 58 i0 zeroA 4 48 Try.underlying32 hi0 hz0 hz1 hz2 rfl (by decide) (.slice o6 m6 c6) (t.atts.take k).length es rfl hnc ⟨w9.heap.size, 0, none⟩ 1 1 [.string an, .string av, .int .i64 y2, .int .i64 y3] rfl rfl (cells_newT w9 #[.string an, .string av, .int .i64 y2, .int .i64 y3] _) (by simp [Value.oneCell']) (by omega) e3 e4 e5 (w9.heap.size + 1) (by simp) ?_; intro g3 cap3 w3 hown3 hgrow3 hfr3 hlt3; have hK3 : Blk w3 T 34 #[.int .u8 q, .string n, .string n2, .slice o6 m6 c6, .int .i64 x4, .int .i64 x5] := (hgrow3.block T (by have := HM9.out.k.lt; simp; omega) (fun h => by have := (HM9.out.ow.lt _ h.symm).1; omega)).trans (HM9.out.k.alloc _); have m3 := hK3.cell 3; have mf := hK3.frozen 3)
          have hown3' : w3.ownsRow (T + 1) 58 4 (.slice (some ⟨g3, 0, none⟩) ((t.atts.take k).length + 1) cap3) ((t.atts.take k).length + 1) (es ++ [.string (strOf a.name), .string (strOf a.val), .int .i64 y2, .int .i64 y3]) := by rw [HAN.out, HAV.out]; exact hown3
          have hM10 := HM9.out.att HPA.out hown3' hgrow3
          rw [← take_snoc HAK.out, HTL.out] at hM10
          have HM10 := Lib.hid hM10
          clear hM10
          go_roundw
          case rel => exact ⟨k + 1, _, _, by go_num, hkl, HM10.out⟩
          case measure => simp [intOf]; omega
        · have hke : k = t.atts.length := by omega
          have htk2 : t.atts.take k = t.atts := by rw [hke, List.take_length]
          have hM := HA.out
          rw [htk2] at hM
          have HMA := Lib.hid hM
          clear hM htk2 hke HA
          have HCT := Lib.hid (HM.out.bel_ HMA.out.bel)
          obtain ⟨o6, m6, c6, rfl⟩ := own_shapeT HMA.out.ow
          have k0 := HMA.out.k.cell 0
          have k1 := HMA.out.k.cell 1
          have k2 := HMA.out.k.cell 2
          have k3 := HMA.out.k.cell 3
          have k4 := HMA.out.k.cell 4
          have k5 := HMA.out.k.cell 5
          obtain ⟨i0, hi0, hz0, hz1, hz2⟩ := info_parts infoGR
          have htl : (ts.take i).length = i := take_len hi
          have e3 : (ts.take i).length + 1 ≤ maxLen := by unfold maxLen; omega
          have e4 : ((ts.take i).length + 1) * 80 ≤ 140737488355328 := by omega
          have e5 : w.heap.size ≤ (wr.alloc (.cells #[.int .u8 q, .string n, .string n2, .slice o6 m6 c6, .int .i64 x4, .int .i64 x5] 34)).heap.size := by have := HCT.out.bel.size; simp; omega
          have hnc := HCT.out.ow.alloc (.cells #[.int .u8 q, .string n, .string n2, .slice o6 m6 c6, .int .i64 x4, .int .i64 x5] 34)
          have HTL := Lib.hid htl
          clear htl
          go_wp2_with (at_builtin; refine wpList_append_lies _ rfl _ _ 27 rfl w.heap.size 34 i0 zeroGT 6 80 Try.underlying27 hi0 hz0 hz1 hz2 rfl (by decide) (.slice ov mv cv) (ts.take i).length cs rfl hnc ⟨wr.heap.size, 0, none⟩ 1 1 [.int .u8 q, .string n, .string n2, .slice o6 m6 c6, .int .i64 x4, .int .i64 x5] rfl rfl (cells_newT wr #[.int .u8 q, .string n, .string n2, .slice o6 m6 c6, .int .i64 x4, .int .i64 x5] _) (by simp [Value.oneCell']) (by omega) e3 e4 e5 (wr.heap.size + 1) (by simp) ?_; intro g3 cap3 w3 hown3 hgrow3 hfr3 hlt3)
          have hm6 : m6 = t.atts.length := by
            rcases HMA.out.ow.2 with ⟨h1, h2⟩ | ⟨g1, cap1, cur1, h1, _⟩
            · simp only [Value.slice.injEq] at h1; omega
            · simp only [Value.slice.injEq] at h1; omega
          have hnew : TgV wr (fun b => w.heap.size ≤ b ∧ (Value.slice ov mv cv).ownBlock ≠ some b) pl t (.agg #[.int .u8 q, .string n, .string n2, .slice o6 m6 c6, .int .i64 x4, .int .i64 x5]) := by
            refine ⟨.slice o6 m6 c6, _, _, es, by rw [HQ.out, HN.out, HN2.out], ⟨x4, x5, rfl, rfl, HXY.out⟩, ?_, HMA.out.at_⟩
            refine RowG.own HMA.out.ow fun b hb hb2 => ⟨?_, fun h => ?_⟩
            · have h1 := HM.out.bel.size; have h2 := HTE.out; omega
            · have h1 := (HM.out.ow.lt b h).2; have h2 := HTE.out; omega
          have hmk := HCT.out.tok hnew hown3 hgrow3 hfr3
          rw [← take_snoc HTK.out, HTL.out] at hmk
          have HMK := Lib.hid hmk
          clear hmk hnew
          go_roundw
          case rel => exact ⟨i + 1, _, by go_num, hlt, HMK.out⟩
          case measure => simp [intOf]; omega
    · have hie : i = ts.length := by omega
      have htk : ts.take i = ts := by rw [hie, List.take_length]
      have hM := HM.out
      rw [htk] at hM
      have HMA := Lib.hid hM
      clear hM htk HM
      go_wp2_with fail
      go_ret
      exact ⟨⟨_, rfl, HMA.out.done⟩, HMA.out.bel⟩
end Go.Proofs.Ytlogjghbdnaedaa
