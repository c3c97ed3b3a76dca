/- Walks: all hits, one after another (find.each, find.made, chapter 03). -/
import Derived.Test.YtpjlkhdolhoeoaaFdMake
namespace Go.Proofs.Ytpjlkhdolhoeoaa
open Go.Shelf Go.RowKit Go.Lib Go.Maps
set_option linter.unusedVariables false
set_option linter.unusedSimpArgs false
set_option maxRecDepth 100000 in
theorem fmade {w : World} {M : Nat} {o : Option Addr} {n cap : Nat} (h : w.cell? ⟨M, 1, none⟩ = some (.slice o n cap)) (hn : 0 < n) : Calls Try.prog 29 #[.pointer (some ⟨M, 0, none⟩)] w fun e w' => e = .returned (.bool true) ∧ w = w' := by
  have hz : (0 : Int) < (n : Int) := by omega
  go_enter Try.func29, Try.ntmps29
  go_wp2_with fail
  go_ret
  exact ⟨rfl, rfl⟩
/-- Those that are told: all, or the first one. -/
def toldH (go : Bool) (T : List (Nat × Nat)) : List (Nat × Nat) := if go then T else T.take 1
set_option maxRecDepth 100000 in
set_option maxHeartbeats 8000000 in
theorem feach {w0 wS w : World} {M B : Nat} {ls P : List Bs} {bk : List Nat} {E : List (List Nat)} {evs : List Value} {lv sv : Value} {D : DataW Unit} (h : BigM w0 M B ls P P bk E evs lv sv D wS)
    (hbk : ∀ (k : Nat) (x : Bs), P[k]? = some x → bk[k]? = some (backI P k)) (hE : EndsP ls ls.length P E) (hP : P.length ≤ 65537) (hls : ls.length ≤ 100000) (g : Nat) (cb : Array Value) (go : Bool) (I : List (Nat × Nat) → World → Prop)
    (eg : ∀ args w, (callFunc g args).run Try.prog w = .ok (.enter g args) w) (hI : ∀ acc wx, I acc wx → Below wS.heap.size wS wx)
    (s : Bs) (hcall : ∀ acc wx (a k : Nat), I acc wx → acc.length < (hitsRun P ls s).length → Calls Try.prog g (#[.agg #[.int .i64 (a : Int), .int .i64 (k : Int)]] ++ cb) wx fun e w' => e = .returned (.bool go) ∧ I (acc ++ [(a, k)]) w') (hs : s.length ≤ 1000000) (hw : I [] w) :
    Calls Try.prog 27 #[.pointer (some ⟨M, 0, none⟩), .string (strOf s), .func (.func g) #[] cb] w fun e w' => e = .returned (.tuple #[]) ∧ I (toldH go (hitsRun P ls s)) w' := by
  have hsz := strOf_size s
  have HM := Lib.hid (fun acc wx (hh : I acc wx) => h.bel_ (hI acc wx hh))
  have HCALL := Lib.hid hcall
  have HBK := Lib.hid hbk
  have HE := Lib.hid hE
  have HP := Lib.hid hP
  have HTr := Lib.hid h.tr
  obtain ⟨gs, scap, rfl, _, _, _⟩ := h.svn
  obtain ⟨lo, lc, rfl⟩ := own_shapeF h.tx
  have m1 : w.cell? ⟨M, 1, none⟩ = some (.slice (some ⟨gs, 0, none⟩) P.length scap) := (HM.out _ _ hw).m.cell 1
  have HMD := Lib.hid (fmade m1 h.tr.pos)
  have HW := Lib.hid hw
  obtain ⟨T, hT⟩ : ∃ T, hitsRun P ls s = T := ⟨_, rfl⟩
  have HT := Lib.hid hT
  rw [hT]
  clear h hcall hbk hE hP hT hw m1 hI
  go_enter Try.func27, Try.ntmps27
  go_wp2_with (go_at_call 29; refine HMD.out.mono ?_; rintro e w1 ⟨rfl, rfl⟩)
  go_loopw [6, 16] (fun u z wr => ∃ (i : Nat) (acc : List (Nat × Nat)), z = .int .i64 i ∧ i ≤ s.length ∧ u = .int .i64 (sufI P (s.take i) : Nat) ∧ I acc wr ∧ (go = false → acc = []) ∧ acc ++ ((List.range s.length).drop i).flatMap (fun i => hitsAt P ls (s.take (i + 1))) = T) (fun _ z _ => s.length - (intOf z).toNat)
  case atStart => exact ⟨0, [], rfl, Nat.zero_le _, by simp [sufI_nil], HW.out, fun _ => rfl, by rw [← HT.out]; rfl⟩
  case round =>
    obtain ⟨i, acc, rfl, hi, rfl, hacc, hgo, hrest⟩ := hrel
    by_cases hlt : i < s.length
    · have hltz : (i : Int) < ((strOf s).size : Int) := by omega
      have hltn : i < (strOf s).size := by omega
      obtain ⟨c, hc⟩ : ∃ c, s[i]? = some c := ⟨_, List.getElem?_eq_getElem hlt⟩
      have hby := byteF hc hltn
      have i0 : (0 : Int) ≤ (i : Int) := by omega
      have iN : (i : Int).toNat = i := by omega
      obtain ⟨z, hz, _, _⟩ := sufI_spec HTr.out (s.take i)
      have htk : s.take (i + 1) = s.take i ++ [c] := by rw [List.take_add_one, hc]; rfl
      have hnx := fnext M P bk (sufI P (s.take i)) z c wr (HM.out _ _ hacc).next HTr.out (by have := HP.out; omega) hz (fun k x hk _ _ => HBK.out k x hk)
      rw [← sufI_snoc HTr.out hz c, ← htk] at hnx
      have hdr : (List.range s.length).drop i = i :: (List.range s.length).drop (i + 1) := by
        rw [List.drop_eq_getElem_cons (by simpa using hlt)]
        simp
      rw [hdr, List.flatMap_cons] at hrest
      obtain ⟨R, hR⟩ : ∃ R, ((List.range s.length).drop (i + 1)).flatMap (fun i => hitsAt P ls (s.take (i + 1))) = R := ⟨_, rfl⟩
      rw [hR] at hrest
      obtain ⟨y, hy⟩ : ∃ y, s.take (i + 1) = y := ⟨_, rfl⟩
      have hyl : y.length = i + 1 := by rw [← hy, List.length_take]; omega
      rw [hy] at hnx hrest
      have HNX := Lib.hid hnx
      have HR := Lib.hid hR
      have HY := Lib.hid hy
      have HYL := Lib.hid hyl
      have HREST := Lib.hid hrest
      have HACC := Lib.hid (And.intro hacc hgo)
      obtain ⟨K, hK⟩ : ∃ K, sufI P (s.take i) = K := ⟨_, rfl⟩
      rw [hK] at HNX ⊢
      have e2 : IntKind.i64.wrap ((i : Int) + 1) = (i : Int) + 1 := IntWalk.i64_in _ (by omega)
      clear hc hz htk hnx hdr hrest hR hy hyl hacc hgo hK
      go_wp2_with (go_at_call 41; refine HNX.out.mono ?_; rintro e w1 ⟨rfl, rfl⟩)
      obtain ⟨f, hf⟩ : ∃ f : Nat → List (Nat × Nat), f = fun k => (endsJ ls (P.getD k [])).map fun w => (y.length - (ls.getD w []).length, w) := ⟨_, rfl⟩
      have HF := Lib.hid hf
      have hrest2 : acc ++ ((chainJ P y).flatMap f ++ R) = T := by rw [← HREST.out, hf]; rfl
      have HREST2 := Lib.hid hrest2
      clear hf hrest2
      go_loopw [8] (fun z wr2 => ∃ (y' : Bs) (acc : List (Nat × Nat)), z = .int .i64 (sufI P y' : Nat) ∧ y' <:+ y ∧ I acc wr2 ∧ (go = false → acc = []) ∧ acc ++ ((chainJ P y').flatMap f ++ R) = T) (fun z _ => (P.getD (intOf z).toNat []).length)
      case atStart => exact ⟨y, acc, rfl, List.suffix_refl _, HACC.out.1, HACC.out.2, HREST2.out⟩
      case round =>
        obtain ⟨y', acc2, rfl, hsuf, hacc, hgo, hrest⟩ := hrel
        have HACC2 := Lib.hid (And.intro hacc hgo)
        have HRES := Lib.hid hrest
        clear hacc hgo hrest
        by_cases hz : sufI P y' = 0
        · have hend := chain_end HTr.out y' hz
          have HREL := Lib.hid (show acc2 ++ ((List.range s.length).drop (i + 1)).flatMap (fun i => hitsAt P ls (s.take (i + 1))) = T by
            have := HRES.out
            rw [hend] at this
            rw [HR.out]
            simpa using this)
          have HYY := Lib.hid (show sufI P y = sufI P (s.take (i + 1)) by rw [HY.out])
          rw [hz]
          clear hend hz
          go_wp2_with fail
          go_roundw
          case rel => exact ⟨i + 1, acc2, by go_num, hlt, by rw [← HYY.out], HACC2.out.1, HACC2.out.2, HREL.out⟩
          case measure => simp [intOf]; omega
        · obtain ⟨c, t, hk, hch, hcs⟩ := chain_step HTr.out y' hz
          obtain ⟨k, hkk⟩ : ∃ k, sufI P y' = k := ⟨_, rfl⟩
          rw [hkk] at hk hch hz ⊢
          have hbig := HM.out _ _ HACC2.out.1
          have hkl := get_lt hk
          have hEk := HE.out.2 k _ hk
          rw [List.take_length] at hEk
          obtain ⟨es, hes⟩ : ∃ es, endsJ ls (c :: t) = es := ⟨_, rfl⟩
          rw [hes] at hEk
          obtain ⟨ev, hev⟩ : ∃ ev, evs[k]? = some ev := ⟨_, List.getElem?_eq_getElem (by rw [hbig.vl]; exact hkl)⟩
          have hev2 := hbig.ends k es ev hEk hev
          obtain ⟨o1, c1, rfl⟩ := own_shapeF hev2
          have hb1 := HBK.out k _ hk
          rw [backI_cons hk] at hb1
          have n1 : wr.cell? ⟨M, 1, none⟩ = some (.slice (some ⟨gs, 0, none⟩) P.length scap) := hbig.m.cell 1
          have s0 : wr.cell? ⟨gs, k * 2 + 1, none⟩ = some (.slice o1 es.length c1) := by
            have := hbig.ow.cells (g := gs) rfl _ _ (stG_at bk evs k _ _ hb1 hev).2
            rwa [Addr.add_lit, Nat.zero_add] at this
          have hfk : f k = es.map fun w => (y.length - (ls.getD w []).length, w) := by
            rw [HF.out]
            simp only
            rw [List.getD_eq_getElem?_getD, hk]
            simp only [Option.getD_some]
            rw [hes]
          have hmid : acc2 ++ (es.map (fun w => (y.length - (ls.getD w []).length, w)) ++ ((chainJ P t).flatMap f ++ R)) = T := by
            have := HRES.out
            rw [hch, List.flatMap_cons, hfk] at this
            simpa using this
          have HMID := Lib.hid hmid
          have k1 : (0 : Int) < (k : Int) := by omega
          have k4 : 0 < k := by omega
          have k2 : (k : Int) < (P.length : Int) := by omega
          have k3 : (0 : Int) ≤ (k : Int) := by omega
          have HK := Lib.hid (And.intro hk (And.intro hcs hb1))
          have HSUF := Lib.hid hsuf
          have HES := Lib.hid hes
          have HEV := Lib.hid (And.intro hEk hev)
          clear hbig hch hk hcs hkk hz hEk hes hev hev2 hb1 hfk hmid hkl hsuf
          go_wp2_with fail
          go_loopw [45] (fun z wr3 => ∃ (j : Nat) (acc : List (Nat × Nat)), z = .int .i64 j ∧ j ≤ es.length ∧ I acc wr3 ∧ (go = false → acc = []) ∧ acc ++ ((es.drop j).map (fun w => (y.length - (ls.getD w []).length, w)) ++ ((chainJ P t).flatMap f ++ R)) = T) (fun z _ => es.length - (intOf z).toNat)
          case atStart => exact ⟨0, acc2, rfl, Nat.zero_le _, HACC2.out.1, HACC2.out.2, HMID.out⟩
          case round =>
            obtain ⟨j, acc3, rfl, hj, hacc, hgo, hrest⟩ := hrel
            have hbig := HM.out _ _ hacc
            by_cases hjl : j < es.length
            · obtain ⟨v, hv⟩ : ∃ v, es[j]? = some v := ⟨_, List.getElem?_eq_getElem hjl⟩
              have hmem : v ∈ endsJ ls (c :: t) := by rw [HES.out]; exact List.mem_of_getElem? hv
              obtain ⟨_, hlv⟩ := endsJ_mem.1 hmem
              have hvl := get_lt hlv
              obtain ⟨hEk, hev⟩ := HEV.out
              have hev2 := hbig.ends k es _ hEk hev
              rcases hev2.2 with ⟨_, h0⟩ | ⟨g1, cap1, cur1, hvv, _⟩
              · omega
              simp only [Value.slice.injEq] at hvv
              obtain ⟨rfl, hq1, hq2⟩ := hvv
              clear hq1 hq2
              have l0 : wr.cell? ⟨g1, j, none⟩ = some (.int .i64 (v : Int)) := by
                have := hev2.cells (g := g1) rfl j (.int .i64 (v : Int)) (by simp [intG, hv])
                rwa [Addr.add_lit, Nat.zero_add] at this
              have htx := hbig.tx
              have n0 : wr.cell? ⟨M, 0, none⟩ = some (.slice lo ls.length lc) := hbig.m.cell 0
              rcases htx.2 with ⟨_, h0⟩ | ⟨g2, cap2, cur2, hvv, _⟩
              · omega
              simp only [Value.slice.injEq] at hvv
              obtain ⟨rfl, hq1, hq2⟩ := hvv
              clear hq1 hq2
              have t0 : wr.cell? ⟨g2, v, none⟩ = some (.string (strOf (c :: t))) := by
                have := htx.cells (g := g2) rfl v (.string (strOf (c :: t))) (by simp [strG, hlv])
                rwa [Addr.add_lit, Nat.zero_add] at this
              have hXs := strOf_size (c :: t)
              obtain ⟨X, hX⟩ : ∃ X, strOf (c :: t) = X := ⟨_, rfl⟩
              rw [hX] at t0 hXs
              have hLl : (c :: t).length ≤ i + 1 := by
                have h1 := (HK.out.2.1.trans HSUF.out).length_le
                have := HYL.out
                omega
              obtain ⟨a, ha⟩ : ∃ a, y.length - (ls.getD v []).length = a := ⟨_, rfl⟩
              have hax : (i : Int) + 1 - (X.size : Int) = (a : Int) := by
                have h1 : (ls.getD v []).length = (c :: t).length := by rw [List.getD_eq_getElem?_getD, hlv]; rfl
                have := HYL.out
                omega
              have e5 : IntKind.i64.wrap ((i : Int) + 1 - (X.size : Int)) = (a : Int) := by rw [hax]; exact IntWalk.i64_in _ (by omega)
              have hdr2 : es.drop j = v :: es.drop (j + 1) := by
                rw [List.drop_eq_getElem_cons hjl]
                have : es[j] = v := by have := List.getElem?_eq_getElem hjl; rw [hv] at this; exact (Option.some.inj this).symm
                rw [this]
              rw [hdr2, List.map_cons, ha, List.cons_append] at hrest
              have HREST3 := Lib.hid hrest
              have HACC3 := Lib.hid (And.intro hacc hgo)
              have HCC := Lib.hid (HCALL.out acc3 wr a v hacc (by rw [HT.out, ← hrest]; simp))
              have j1 : (j : Int) < (es.length : Int) := by omega
              have j2 : (0 : Int) ≤ (j : Int) := by omega
              have v1 : (v : Int) < (ls.length : Int) := by omega
              have v2 : (0 : Int) ≤ (v : Int) := by omega
              have e6 : IntKind.i64.wrap ((j : Int) + 1) = (j : Int) + 1 := IntWalk.i64_in _ (by
                have h1 : (endsJ ls (c :: t)).length ≤ ls.length := by
                  unfold endsJ
                  exact Nat.le_trans (List.length_filter_le _ _) (by simp)
                rw [HES.out] at h1
                omega)
              clear hbig hv hmem hlv hvl hEk hev hev2 htx hXs hX hLl ha hax hdr2 hrest hacc hgo hj
              cases go
              · go_wp2_with (go_at_fn g; refine HCC.out.mono ?_; rintro e w3 ⟨rfl, hI3⟩; have HI3 := Lib.hid hI3; clear hI3)
                (try simp only [Exit.inBlock, Exit.then])
                refine bodyPost_ret (results_none rfl _ _ _) rfl ?_
                refine ⟨rfl, ?_⟩
                have h1 := HREST3.out
                have h2 := HI3.out
                have h3 := HACC3.out.2 (by first | trivial | rfl)
                subst h3
                rw [← h1]
                exact h2
              · go_wp2_with (go_at_fn g; refine HCC.out.mono ?_; rintro e w3 ⟨rfl, hI3⟩; have HI3 := Lib.hid hI3; clear hI3)
                go_roundw
                case rel => exact ⟨j + 1, acc3 ++ [(a, v)], by go_num, hjl, HI3.out, (fun h => by cases h), by rw [← HREST3.out]; simp⟩
                case measure => simp [intOf]; omega
            · have hje : j = es.length := by omega
              subst hje
              rw [List.drop_length, List.map_nil, List.nil_append] at hrest
              obtain ⟨hEk, hev⟩ := HEV.out
              have s1 : wr.cell? ⟨gs, k * 2, none⟩ = some (.int .i64 (sufI P t : Nat)) := by
                have := hbig.ow.cells (g := gs) rfl _ _ (stG_at bk evs k _ _ HK.out.2.2 hev).1
                rwa [Addr.add_lit, Nat.zero_add] at this
              have n1 : wr.cell? ⟨M, 1, none⟩ = some (.slice (some ⟨gs, 0, none⟩) P.length scap) := hbig.m.cell 1
              have HACC3 := Lib.hid (And.intro hacc (And.intro hgo hrest))
              have HKB : Hid ((P.getD (sufI P t) []).length < (P.getD k []).length) := by
                show _ < _
                obtain ⟨z, hz, hzs, _⟩ := sufI_spec HTr.out t
                have h1 : (P.getD (sufI P t) []) = z := by rw [List.getD_eq_getElem?_getD, hz]; rfl
                have h2 : (P.getD k []) = c :: t := by rw [List.getD_eq_getElem?_getD, HK.out.1]; rfl
                rw [h1, h2]
                have := hzs.length_le
                simp; omega
              have HT2 := Lib.hid (show t <:+ y from (List.suffix_cons c t).trans (HK.out.2.1.trans HSUF.out))
              obtain ⟨K2, hK2⟩ : ∃ K2, sufI P t = K2 := ⟨_, rfl⟩
              have HK2 := Lib.hid hK2
              rw [hK2] at s1 HKB
              clear hbig hEk hev hacc hgo hrest hj hjl hK2
              go_wp2_with fail
              go_roundw
              case rel => exact ⟨t, acc3, by rw [HK2.out], HT2.out, HACC3.out.1, HACC3.out.2.1, HACC3.out.2.2⟩
              case measure => simp only [intOf]; simpa using HKB.out
    · have hie : i = s.length := by omega
      subst hie
      have hTe : acc = T := by
        rw [List.drop_eq_nil_of_le (by simp)] at hrest
        simpa using hrest
      have HEND := Lib.hid (show I (toldH go T) wr by
        unfold toldH
        cases go with
        | true => rw [← hTe]; exact hacc
        | false => rw [← hTe, hgo rfl] ; rw [hgo rfl] at hacc; exact hacc)
      clear hrest hacc hgo hTe hlt hi
      go_wp2_with fail
      go_end0
      exact ⟨rfl, HEND.out⟩
end Go.Proofs.Ytpjlkhdolhoeoaa
