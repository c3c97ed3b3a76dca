/- Walks: the law of the hits (FindHits, chapter 03). -/
import Derived.Test.YtpjlkhdolhoeoaaFdFew
namespace Go.Proofs.Ytpjlkhdolhoeoaa
open Go.Shelf Go.RowKit Go.Lib Go.Maps
set_option linter.unusedVariables false
set_option linter.unusedSimpArgs false
theorem tot_few {ls : List Bs} (h : ∀ s ∈ ls, s.length ≤ 40) : tot ls ≤ 40 * ls.length := by
  induction ls with
  | nil => simp [tot]
  | cons x r ih =>
    have h1 := h x (by simp)
    have h2 := ih fun s hs => h s (by simp [hs])
    have e : tot (x :: r) = x.length + tot r := by simp [tot]
    rw [e, List.length_cons]; omega
theorem few_fit (ss : List Bs) : fitN (fewL ss) = 0 := by
  have h1 := fewL_len ss
  have h2 := tot_few (fewL_mem (ss := ss))
  unfold fitN
  rw [if_neg (by omega), if_neg (by omega)]
theorem few_tot (ss : List Bs) : tot (fewL ss) ≤ 480 := by
  have h1 := fewL_len ss
  have h2 := tot_few (fewL_mem (ss := ss))
  omega
theorem fstV_shape (o : Option (Nat × Nat)) : ∃ (a k : Int) (b : Bool), fstV o = .tuple #[.agg #[.int .i64 a, .int .i64 k], .bool b] := by
  cases o with
  | none => exact ⟨0, 0, false, rfl⟩
  | some h => exact ⟨_, _, _, rfl⟩
set_option maxRecDepth 100000 in
set_option maxHeartbeats 8000000 in
theorem fhitsLaw {w : World} {o : Option Addr} {len cap : Nat} {ss : List Bs} (h : StrsM w o len ss) (s : Bs) (hs : s.length ≤ 9223372036854775807) (f : Int) :
    Calls Try.prog 5 #[.slice o len cap, .string (strOf s), .int .i64 f] w fun e w' => e = .returned (.bool true) ∧ Below w.heap.size w w' := by
  have HF := Lib.hid (ffew (cap := cap) h)
  have HS := Lib.hid (fun W => fshort s hs W)
  have hx : (s.take 120).length ≤ 120 := by rw [List.length_take]; omega
  obtain ⟨x, hxx⟩ : ∃ x, s.take 120 = x := ⟨_, rfl⟩
  rw [hxx] at HS hx
  have hfl := fewL_len ss
  have hfm := fewL_mem (ss := ss)
  have hff := few_fit ss
  have hft := few_tot ss
  obtain ⟨ls, hls⟩ : ∃ ls, fewL ss = ls := ⟨_, rfl⟩
  rw [hls] at hfl hfm hff hft HF
  have hl12 : ls.length ≤ 12 := by omega
  have hsl : x.length * ls.length ≤ 1000000 := by
    have := Nat.mul_le_mul hx hl12
    omega
  have HN := Lib.hid (fun (W : World) (g c : Nat) (h : TxtM W g 0 ls) => fnew (cap := c) h hff (fun s hs => by have := hfm s hs; omega) (fun N hN => stableAny N (by omega)))
  have HL := Lib.hid (fun (w0 wS : World) (M : Nat) (h : MadeM w0 M ls wS) => flen h)
  have HH := Lib.hid (fun (w0 wS : World) (M : Nat) (h : MadeM w0 M ls wS) => fhits h (by omega) x (by omega) hsl)
  have HA := Lib.hid (fun (w0 wS : World) (M : Nat) (h : MadeM w0 M ls wS) => fhas h (by omega) x (by omega))
  have H1 := Lib.hid (fun (w0 wS : World) (M : Nat) (h : MadeM w0 M ls wS) => ffirst h (by omega) x (by omega) hsl f)
  have RH := Lib.hid (fun (W : World) (g c : Nat) (h : TxtM W g 0 ls) => fhitsR (cap := c) h (by omega) (fun s hs => by have := hfm s hs; omega) x (by omega) hsl)
  have R1 := Lib.hid (fun (W : World) (g c : Nat) (h : TxtM W g 0 ls) => ffirstR (cap := c) h (by omega) (fun s hs => by have := hfm s hs; omega) x (by omega) hsl f)
  have hlj := hitsJ_len ls x
  obtain ⟨n, hn⟩ : ∃ n, ls.length = n := ⟨_, rfl⟩
  rw [hn] at HF HN HL RH R1
  obtain ⟨l, hl⟩ : ∃ l, hitsJ ls x = l := ⟨_, rfl⟩
  rw [hl] at HH HA H1 RH R1 hlj
  have hll : l.length ≤ 1000000 := by omega
  obtain ⟨b, hb⟩ : ∃ b, (!l.isEmpty) = b := ⟨_, rfl⟩
  rw [hb] at HA
  obtain ⟨m, hm⟩ : ∃ m, l.length = m := ⟨_, rfl⟩
  rw [hm] at HH RH hll
  have hb2 : decide ((0 : Int) < (m : Int)) = b := by rw [← hb, ← hm]; cases l <;> simp
  have hb3 : decide (0 < m) = b := by rw [← hb, ← hm]; cases l <;> simp
  have hbb : (b != b) = false := by simp
  have HLM := Lib.hid hm
  obtain ⟨va, vk, vb, hv⟩ := fstV_shape (fstH l f)
  rw [hv] at H1 R1
  clear h hs hxx hx hfl hfm hff hft hls hl12 hsl hlj hn hl hb hv hm
  go_enter Try.func5, Try.ntmps5
  go_upto_region 2 with (first
    | (go_at_call 11; refine HF.out.mono ?_; rintro e w1 ⟨g, c, rfl, ho⟩; have HO := Lib.hid ho; clear ho)
    | (go_at_call 12; refine (HS.out _).mono ?_; rintro e w2 ⟨rfl, rfl⟩))
  have HT := Lib.hid (fun (W : World) (hb : Below w1.heap.size w1 W) => (txt_own HO.out.2.1).keep hb)
  have HNEW := Lib.hid (HN.out w1 g c (txt_own HO.out.2.1))
  go_upto_region 3 with (go_at_call 8; refine HNEW.out.mono ?_; rintro e w2 ⟨M, rfl, hm⟩; have HM := Lib.hid hm; clear hm)
  have HLN := Lib.hid (HL.out _ _ _ HM.out)
  have H3 := Lib.hid (HH.out _ _ _ HM.out)
  go_upto_region 5 with (go_at_call 16; refine HLN.out.mono ?_; rintro e w3 ⟨rfl, rfl⟩)
  have hb2' := HM.out.bel
  have HB2 := Lib.hid hb2'
  clear hb2'
  go_upto_region 6 with (first
    | (go_at_call 17; refine H3.out.mono ?_; rintro e w3 ⟨v3, rfl, hr3, hb3⟩; have HR3 := Lib.hid (And.intro hr3 hb3); have H4 := Lib.hid (RH.out w3 g c (HT.out _ (HB2.out.trans (hb3.mono HB2.out.size)))); clear hr3 hb3)
    | (go_at_call 18; refine H4.out.mono ?_; rintro e w4 ⟨v4, rfl, hr4, hb4⟩; have HR4 := Lib.hid (And.intro hr4 hb4); clear hr4 hb4))
  obtain ⟨o3, c3, rfl⟩ := own_shapeF HR3.out.1
  obtain ⟨o4, c4, rfl⟩ := own_shapeF HR4.out.1
  have HK := Lib.hid (fun (W : World) (hb : Below w4.heap.size w4 W) => show W.ownsRow w2.heap.size 45 2 (.slice o3 m c3) l.length (hitG l) ∧ W.ownsRow w3.heap.size 46 2 (.slice o4 m c4) l.length (hitG l) ∧ MadeM w1 M ls W ∧ TxtM W g 0 ls ∧ Below w.heap.size w W from by
    have b3 : Below w3.heap.size w3 W := HR4.out.2.trans (hb.mono HR4.out.2.size)
    have b2 : Below w2.heap.size w2 W := HR3.out.2.trans (b3.mono HR3.out.2.size)
    have b1 : Below w1.heap.size w1 W := HB2.out.trans (b2.mono HB2.out.size)
    exact ⟨by rw [HLM.out]; exact own_below HR3.out.1 b3, by rw [HLM.out]; exact own_below HR4.out.1 hb, HM.out.keep b2, HT.out W b1, HO.out.2.2.trans (b1.mono HO.out.2.2.size)⟩)
  have HAS := Lib.hid (HA.out _ _ _ (HK.out w4 (Below.refl _ _)).2.2.1)
  go_upto_region 8 with (go_at_call 15; refine HAS.out.mono ?_; rintro e w5 ⟨rfl, hb5⟩; have HB5 := Lib.hid hb5; clear hb5)
  go_wp2_with fail
  go_loopw [11] (fun z wr => ∃ i : Nat, z = .int .i64 i ∧ i ≤ m ∧ Below w4.heap.size w4 wr) (fun z _ => m - (intOf z).toNat)
  case atStart => exact ⟨0, rfl, Nat.zero_le _, HB5.out⟩
  case round =>
    obtain ⟨i, rfl, hi, hb⟩ := hrel
    by_cases hlt : i < m
    · obtain ⟨⟨a, k⟩, he⟩ : ∃ e, l[i]? = some e := ⟨_, List.getElem?_eq_getElem (by have := HLM.out; omega)⟩
      obtain ⟨q1, q2, _, _, _⟩ := HK.out wr hb
      rcases q1.2 with ⟨_, h0⟩ | ⟨g1, cap1, cur1, hvv, _⟩
      · have := HLM.out; omega
      simp only [Value.slice.injEq] at hvv
      obtain ⟨rfl, hq1, hq2⟩ := hvv
      clear hq1 hq2
      rcases q2.2 with ⟨_, h0⟩ | ⟨g2, cap2, cur2, hvv, _⟩
      · have := HLM.out; omega
      simp only [Value.slice.injEq] at hvv
      obtain ⟨rfl, hq1, hq2⟩ := hvv
      clear hq1 hq2
      have HC := Lib.hid (And.intro (hit_cells q1 he).1 (And.intro (hit_cells q1 he).2 (And.intro (hit_cellsR q2 he).1 (hit_cellsR q2 he).2)))
      have i1 : (i : Int) < (m : Int) := by omega
      have i2 : (0 : Int) ≤ (i : Int) := by omega
      have e2 : IntKind.i64.wrap ((i : Int) + 1) = (i : Int) + 1 := IntWalk.i64_in _ (by omega)
      have HB := Lib.hid hb
      clear q1 q2 he hb
      go_upto_region 11 with fail
      go_region_held3 (fun w' => w'.cell? ⟨g1, i * 2, none⟩ = some (.int .i64 (a : Int)) ∧ w'.cell? ⟨g1, i * 2 + 1, none⟩ = some (.int .i64 (k : Int)) ∧ w'.cell? ⟨g2, i * 2, none⟩ = some (.int .i64 (a : Int)) ∧ w'.cell? ⟨g2, i * 2 + 1, none⟩ = some (.int .i64 (k : Int))) (exact HC.out) (fail)
      go_wp2_with fail
      go_roundw
      case rel => exact ⟨i + 1, by go_num, hlt, below_drewF HB.out⟩
      case measure => simp [intOf]; omega
    · have i1 : ¬ (i : Int) < (m : Int) := by omega
      have HB := Lib.hid hb
      have HF1 := Lib.hid (H1.out _ _ _ (HK.out wr hb).2.2.1)
      clear hb hlt hi
      go_upto_region 14 with (go_at_call 19; refine HF1.out.mono ?_; rintro e w6 ⟨rfl, hb6⟩; have HB6 := Lib.hid (HB.out.trans (hb6.mono HB.out.size)); clear hb6)
      have k7 := Blk.new w6 45 #[.int .i64 va, .int .i64 vk]
      have hb7 := below_al1 HB6.out (.cells #[.int .i64 va, .int .i64 vk] 45)
      obtain ⟨K7, hK7⟩ : ∃ K, K = w6.heap.size := ⟨_, rfl⟩
      rw [← hK7] at k7 ⊢
      clear hK7
      generalize w6.alloc (.cells #[.int .i64 va, .int .i64 vk] 45) = w7 at k7 hb7 ⊢
      have HRF := Lib.hid (R1.out w7 g c (HK.out w7 hb7).2.2.2.1)
      have H7 := Lib.hid (And.intro k7 hb7)
      clear k7 hb7
      go_upto_region 15 with (go_at_call 20; refine HRF.out.mono ?_; rintro e w8 ⟨rfl, hb8⟩; have HB8 := Lib.hid hb8; clear hb8)
      have k9 := Blk.new w8 46 #[.int .i64 va, .int .i64 vk]
      have k7 := (H7.out.1.below HB8.out H7.out.1.lt).alloc (.cells #[.int .i64 va, .int .i64 vk] 46)
      have hb9 := below_al1 (H7.out.2.trans (HB8.out.mono H7.out.2.size)) (.cells #[.int .i64 va, .int .i64 vk] 46)
      obtain ⟨K9, hK9⟩ : ∃ K, K = w8.heap.size := ⟨_, rfl⟩
      rw [← hK9] at k9 ⊢
      clear hK9
      generalize w8.alloc (.cells #[.int .i64 va, .int .i64 vk] 46) = w9 at k7 k9 hb9 ⊢
      have a0 := k7.cell 0
      have a1 := k7.cell 1
      have b0 := k9.cell 0
      have b1 := k9.cell 1
      have HE9 := Lib.hid (HK.out w9 hb9).2.2.2.2
      have HAW := Lib.hid (fawake w9)
      clear k7 k9 hb9
      go_wp2_with (go_at_call 10; refine HAW.out.mono ?_; rintro e w10 ⟨rfl, hb10⟩; have HB10 := Lib.hid hb10; clear hb10)
      go_ret
      exact ⟨rfl, HE9.out.trans (HB10.out.mono HE9.out.size)⟩
end Go.Proofs.Ytpjlkhdolhoeoaa
