/- Walks: a text's states are laid (find.lay, chapter 03). -/
import Derived.Test.YtpjlkhdolhoeoaaFdNext
import Derived.Deep.RegionLaw
namespace Go.Proofs.Ytpjlkhdolhoeoaa
open Go.RowKit Go.Maps
set_option linter.unusedVariables false
set_option linter.unusedSimpArgs false
theorem byteF {s : Bs} {i : Nat} {c : UInt8} (h : s[i]? = some c) (hi : i < (strOf s).size) : (strOf s)[i].toNat = c.toNat := by
  obtain ⟨h1, rfl⟩ := List.getElem?_eq_some_iff.1 h
  simp [strOf]
  rfl
theorem below_drewF {B : Nat} {a w : World} (h : Below B a w) : Below B a w.drew := ⟨h.os, h.tape, h.output, h.size, h.block⟩
def zeroSt : Value := .agg #[.int .i64 0, .slice none 0 0]
theorem infoSt : (Try.prog.info? 72).map (fun i => (i.zero, i.size, i.bytes)) = some (some zeroSt, 2, 32) := by kernel_rfl
theorem infoInt : (Try.prog.info? 3).map (fun i => (i.zero, i.size, i.bytes)) = some (some (.int .i64 0), 1, 8) := by kernel_rfl
theorem cells_newF (w : World) (cs : Array Value) (t : TypeId) : ∀ j u, cs.toList[j]? = some u → (w.alloc (.cells cs t)).cell? ((⟨w.heap.size, 0, none⟩ : Addr).add j) = some u := by
  intro j u h
  have h1 := (Blk.new w t cs).cell j
  have h2 : (w.alloc (.cells cs t)).cell? ⟨w.heap.size, j, none⟩ = some u := by rw [h1, ← Array.getElem?_toList]; exact h
  rw [Addr.add_lit, Nat.zero_add]; exact h2
theorem own_cf {w : World} {n : Nat} {e : TypeId} {size N g cap : Nat} {xs : List Value} (h : w.ownsRow n e size (.slice (some ⟨g, 0, none⟩) N cap) N xs) : (∀ j u, xs[j]? = some u → w.cell? ⟨g, j, none⟩ = some u) ∧ ∀ j, w.frozen? ⟨g, j, none⟩ = false := by
  refine ⟨fun j u hu => ?_, fun j => ?_⟩
  · have := h.cells (g := g) rfl j u hu
    rwa [Addr.add_lit, Nat.zero_add] at this
  · rcases h.2 with ⟨h2, _⟩ | ⟨q, c, cur, hv, hq, hh, _⟩
    · cases h2
    · simp only [Value.slice.injEq, Option.some.injEq, Addr.mk.injEq] at hv
      obtain ⟨⟨rfl, _, _⟩, _, _⟩ := hv
      simp [World.frozen?, hh]
theorem own_shapeF {w : World} {base : Nat} {e : TypeId} {size n : Nat} {v : Value} {xs : List Value} (h : w.ownsRow base e size v n xs) : ∃ o c, v = .slice o n c := by
  rcases h.2 with ⟨rfl, h0⟩ | ⟨g, cap, cur, rfl, _⟩
  · exact ⟨_, _, by rw [h0]⟩
  · exact ⟨_, _, rfl⟩
theorem repl_snoc {P : List Bs} {y : Bs} : List.replicate P.length 0 ++ [0] = List.replicate (P ++ [y]).length 0 := by
  rw [List.length_append, List.length_singleton, List.replicate_succ']
set_option maxRecDepth 100000 in
set_option maxHeartbeats 16000000 in
theorem flay (w0 wA : World) (M B n : Nat) (ls P : List Bs) (E : List (List Nat)) (evs : List Value) (lv sv : Value) (D : DataW Unit) (s : Bs) (h : BigM w0 M B ls P P (List.replicate P.length 0) E evs lv sv D wA) (hE : EndsP ls n P E) (hl : LaidP ls n P) (hs : ls[n]? = some s) (hP : P.length + s.length ≤ 100000) (hls : ls.length ≤ 100000) :
    Calls Try.prog 25 #[.pointer (some ⟨M, 0, none⟩), .int .i64 n, .string (strOf s)] wA fun e w' => e = .returned (.tuple #[]) ∧
      ∃ E' evs' sv' D', BigM w0 M B ls (layP P [] s) (layP P [] s) (List.replicate (layP P [] s).length 0) E' evs' lv sv' D' w' ∧ EndsP ls (n + 1) (layP P [] s) E' ∧ LaidP ls (n + 1) (layP P [] s) := by
  have hsz := strOf_size s
  have HM0 := Lib.hid h
  have HE0 := Lib.hid hE
  have HL0 := Lib.hid hl
  have HS := Lib.hid hs
  have hn : n ≤ 1000000 ∨ True := .inr trivial
  obtain ⟨P', hP'⟩ : ∃ P', layP P [] s = P' := ⟨_, rfl⟩
  rw [hP']
  have HP' := Lib.hid hP'
  have HSZ := Lib.hid hsz
  have hss : (strOf s).size ≤ 100000 := by omega
  have hsl : s.length ≤ 100000 := by omega
  clear h hE hl hs hsz hP' hn
  go_enter Try.func25, Try.ntmps25
  go_wp2_with fail
  go_loopw [6, 13] (fun z u wr => ∃ (i a : Nat) (P1 : List Bs) (E1 : List (List Nat)) (evs1 : List Value) (sv1 : Value) (D1 : DataW Unit), z = .int .i64 a ∧ u = .int .i64 i ∧ i ≤ s.length ∧ P1[a]? = some (s.take i) ∧ layP P1 (s.take i) (s.drop i) = P' ∧ P1.length ≤ P.length + i ∧ EndsP ls n P1 E1 ∧ LaidP ls n P1 ∧ BigM w0 M B ls P1 P1 (List.replicate P1.length 0) E1 evs1 lv sv1 D1 wr) (fun _ u _ => s.length - (intOf u).toNat)
  case atStart => exact ⟨0, 0, P, E, evs, sv, D, rfl, rfl, Nat.zero_le _, HM0.out.tr.root, HP'.out, Nat.le_refl _, HE0.out, HL0.out, HM0.out⟩
  case round =>
    obtain ⟨wo, rfl⟩ : ∃ wo, wo = wr := ⟨_, rfl⟩
    obtain ⟨i, a, P1, E1, evs1, sv1, D1, rfl, rfl, hi, ha, hlay, hPl, hE1, hL1, hm⟩ := hrel
    have HA := Lib.hid ha
    have HLY := Lib.hid hlay
    have HE1 := Lib.hid hE1
    have HL1 := Lib.hid hL1
    have HM := Lib.hid hm
    have hal : a < P1.length := get_lt ha
    clear ha hlay hE1 hL1 hm HM0 HE0 HL0
    by_cases hlt : i < s.length
    · obtain ⟨c, hc⟩ : ∃ c, s[i]? = some c := ⟨_, List.getElem?_eq_getElem hlt⟩
      have hiz : i < (strOf s).size := by have := HSZ.out; omega
      have hby := byteF hc hiz
      have hc8 := UInt8.toNat_lt c
      have htk : s.take (i + 1) = s.take i ++ [c] := by rw [List.take_add_one, hc]; rfl
      have hdr : s.drop i = c :: s.drop (i + 1) := by
        obtain ⟨h1, h2⟩ := List.getElem?_eq_some_iff.1 hc
        rw [List.drop_eq_getElem_cons h1, h2]
      have HTK := Lib.hid htk
      have HDR := Lib.hid hdr
      have HLY2 : Hid (layP P1 (s.take i) (c :: s.drop (i + 1)) = P') := by show _ = _; rw [← HDR.out]; exact HLY.out
      have HKEY := Lib.hid (keyOf_step (a : Int) (c.toNat : Int) (wfN (by omega)) (wfN (u8_le c)))
      have HM1 := Lib.hid (HM.out.al (.cells #[.int .i64 a, .int .i64 (c.toNat : Int)] 68))
      have HK1 := Lib.hid (Blk.new wo 68 #[.int .i64 a, .int .i64 (c.toNat : Int)])
      have HMK : Hid (M ≠ wo.heap.size) := by show _ ≠ _; have := HM.out.m.lt; omega
      obtain ⟨gs0, cap0, hsv0, _, hgs0, _⟩ := HM.out.svn
      have HSV : Hid (∃ gs cap, sv1 = .slice (some ⟨gs, 0, none⟩) P1.length cap) := ⟨gs0, cap0, hsv0⟩
      have HBK : Hid (B < wo.heap.size) := map_lt HM.out.mp
      have HGK : Hid (∀ b, sv1.ownBlock = some b → b < wo.heap.size) := fun b hb => (HM.out.ow.lt b hb).2
      clear hsv0 hgs0
      clear htk hdr HLY HM hc
      go_upto_region 5 with fail
      generalize hW : wo.alloc (.cells #[.int .i64 a, .int .i64 (c.toNat : Int)] 68) = W1 at *
      generalize hK : wo.heap.size = K at *
      clear hW hK hby
      have HC1 : Hid (W1.cell? ⟨M, 2, none⟩ = some (.map (some B)) ∧ W1.cell? ⟨K, 0, none⟩ = some (.int .i64 a) ∧ W1.cell? ⟨K, 1, none⟩ = some (.int .i64 (c.toNat : Int))) := ⟨HM1.out.m.cell 2, HK1.out.cell 0, HK1.out.cell 1⟩
      obtain ⟨v, ps, hrun, hv⟩ := HM1.out.drew.mp.look_ok lawStep Try.underlying53 (zeroIntF _) (plainElem_int Try.underlying3 (by decide)) HKEY.out
      obtain ⟨cc, rfl, hcc, _⟩ := plainElem_int_inv Try.underlying3 hv
      have hcc1 := congrArg Prod.fst hcc
      dsimp only at hcc1
      clear hcc hv
      cases hidx : idx P1 (s.take i ++ [c]) with
      | some j =>
        obtain ⟨hh, hvv⟩ := HM1.out.mP.hit HA.out hidx
        rw [hh] at hrun
        have hccj : cc = (j : Int) := by
          rw [hvv] at hcc1
          simpa using hcc1.symm
        subst hccj
        have HGJ : Hid (P1[j]? = some (s.take (i + 1))) := by show _ = _; rw [HTK.out]; exact idx_get hidx
        have HLY3 : Hid (layP P1 (s.take (i + 1)) (s.drop (i + 1)) = P') := by show _ = _; rw [HTK.out, ← layP_hit hidx]; exact HLY2.out
        clear hh hvv hcc1 hidx
        go_region_held3 (fun w' => w'.cell? ⟨M, 2, none⟩ = some (.map (some B)) ∧ w'.cell? ⟨K, 0, none⟩ = some (.int .i64 a) ∧ w'.cell? ⟨K, 1, none⟩ = some (.int .i64 (c.toNat : Int))) (exact HC1.out) (fail)
        clear hrun
        go_wp2_with fail
        go_roundw
        case rel => exact ⟨i + 1, j, P1, E1, evs1, sv1, D1, rfl, by go_num, hlt, HGJ.out, HLY3.out, by omega, HE1.out, HL1.out, HM1.out.drew⟩
        case measure => simp [intOf]; omega
      | none =>
        have hh := HM1.out.mP.miss (by omega) HA.out hidx
        rw [hh] at hrun
        have HI := Lib.hid hidx
        clear hh hidx hcc1
        go_region_held3 (fun w' => w'.cell? ⟨M, 2, none⟩ = some (.map (some B)) ∧ w'.cell? ⟨K, 0, none⟩ = some (.int .i64 a) ∧ w'.cell? ⟨K, 1, none⟩ = some (.int .i64 (c.toNat : Int))) (exact HC1.out) (fail)
        have HM5 := Lib.hid HM1.out.drew
        have HK5 := Lib.hid HK1.out.drew
        clear hrun HM1 HK1 HC1
        generalize W1.drew = W5 at *
        obtain ⟨gs, cap, rfl⟩ := HSV.out
        have hgs : gs < K := HGK.out gs rfl
        have m1 := HM5.out.m.cell 1
        have mf1 := HM5.out.m.frozen 1
        obtain ⟨i0, hi0, hz0, hz1, hz2⟩ := info_parts infoSt
        have e3 : P1.length + 1 ≤ maxLen := by unfold maxLen; omega
        have e4 : (P1.length + 1) * 32 ≤ 140737488355328 := by omega
        have e5 : w0.heap.size ≤ (W5.alloc (.cells #[.int .i64 0, .slice none 0 0] 72)).heap.size := by have := HM5.out.bel.size; simp; omega
        have hnc := HM5.out.ow.alloc (.cells #[.int .i64 0, .slice none 0 0] 72)
        go_wp2_with (at_builtin; refine wpList_append_lies _ rfl _ _ 52 rfl w0.heap.size 72 i0 zeroSt 2 32 Try.underlying52 hi0 hz0 hz1 hz2 rfl (by decide) (.slice (some ⟨gs, 0, none⟩) P1.length cap) P1.length (stG (List.replicate P1.length 0) evs1) rfl hnc ⟨W5.heap.size, 0, none⟩ 1 1 [.int .i64 0, .slice none 0 0] rfl rfl (cells_newF W5 #[.int .i64 0, .slice none 0 0] _) (by simp [Value.oneCell']) (by omega) e3 e4 e5 (W5.heap.size + 1) (by simp) ?_; intro g3 cap3 w3 hown3 hgrow3 hfr3 hlt3; have hK3 : Blk w3 M 55 #[lv, .slice (some ⟨gs, 0, none⟩) P1.length cap, .map (some B)] := (hgrow3.block M (by have := HM5.out.m.lt; simp; omega) (fun h => HM5.out.apart.2.2.2.1 h.symm)).trans (HM5.out.m.alloc _); have m3 := hK3.cell 1; have mf := hK3.frozen 1)
        have HM8 := Lib.hid (HM5.out.state (y := s.take i ++ [c]) (HM5.out.tr.snoc HA.out HI.out) hown3 hgrow3 hfr3)
        have hK8 : Blk (w3.setCell ⟨M, 1, none⟩ (.slice (some ⟨g3, 0, none⟩) (P1.length + 1) cap3)) K 68 #[.int .i64 a, .int .i64 (c.toNat : Int)] :=
          Blk.far ((hgrow3.block K (by have := HK5.out.lt; simp; omega) (by simp [Value.ownBlock]; omega)).trans (HK5.out.alloc _)) (p := ⟨M, 1, none⟩) (fun e => HMK.out e.symm) _
        have HK8 := Lib.hid hK8
        clear hown3 hgrow3 hfr3 hK8 HK5 hnc m1 mf1 e5
        generalize hW8 : w3.setCell ⟨M, 1, none⟩ (.slice (some ⟨g3, 0, none⟩) (P1.length + 1) cap3) = W8 at *
        clear hW8
        obtain ⟨w9, hupd, hom, hturn⟩ := HM8.out.drew.mp.store (ps := []) lawStep Try.underlying53 (by unfold maxLen; omega) HKEY.out (plainElem_int Try.underlying3 (wfN (n := P1.length) (by omega)))
        have HM9 := Lib.hid (HM8.out.drew.put HM5.out.tr (by omega) HA.out HI.out hom hturn)
        have HC8 : Hid (W8.cell? ⟨M, 2, none⟩ = some (.map (some B)) ∧ W8.cell? ⟨K, 0, none⟩ = some (.int .i64 a) ∧ W8.cell? ⟨K, 1, none⟩ = some (.int .i64 (c.toNat : Int))) := ⟨HM8.out.m.cell 2, HK8.out.cell 0, HK8.out.cell 1⟩
        have hkb : ∀ (b j : Nat), b < W8.heap.size → b ≠ B → w9.cell? ⟨b, j, none⟩ = W8.cell? ⟨b, j, none⟩ := fun b j hb hn => World.cell?_of_block (w := W8.drew) (hturn.grown.block b hb (by simpa using hn))
        have HC9 : Hid (w9.cell? ⟨M, 2, none⟩ = some (.map (some B)) ∧ w9.cell? ⟨K, 0, none⟩ = some (.int .i64 a) ∧ w9.cell? ⟨K, 1, none⟩ = some (.int .i64 (c.toNat : Int))) :=
          ⟨(hkb M 2 HM8.out.m.lt HM8.out.apart.1).trans HC8.out.1, (hkb K 0 HK8.out.lt (Nat.ne_of_gt HBK.out)).trans HC8.out.2.1, (hkb K 1 HK8.out.lt (Nat.ne_of_gt HBK.out)).trans HC8.out.2.2⟩
        clear hom hturn HK8 hkb HM8
        go_region_held3 (fun w' => w'.cell? ⟨M, 2, none⟩ = some (.map (some B)) ∧ w'.cell? ⟨K, 0, none⟩ = some (.int .i64 a) ∧ w'.cell? ⟨K, 1, none⟩ = some (.int .i64 (c.toNat : Int))) (first | exact HC8.out | exact HC9.out) (fail)
        go_wp2_with fail
        go_roundw
        case rel =>
          refine ⟨i + 1, P1.length, P1 ++ [s.take i ++ [c]], E1 ++ [[]], evs1 ++ [.slice none 0 0], .slice (some ⟨g3, 0, none⟩) (P1.length + 1) cap3, D1.put (keyL a c.toNat) (.lit (.int .i64 P1.length)), rfl, by go_num, hlt, ?_, ?_, by rw [List.length_append, List.length_singleton]; omega, HE1.out.snoc HL1.out HI.out, HL1.out.snoc, ?_⟩
          · rw [List.getElem?_append_right (Nat.le_refl _), Nat.sub_self, HTK.out]; rfl
          · rw [HTK.out, ← layP_miss HI.out]; exact HLY2.out
          · rw [← repl_snoc]; exact HM9.out
        case measure => simp [intOf]; omega
    · have hie : i = s.length := by omega
      have hPe : P1 = P' := by
        have h1 := HLY.out
        rw [hie, List.drop_length, layP_nil] at h1
        exact h1
      have hPa : P1[a]? = some s := by
        have h1 := HA.out
        rw [hie, List.take_length] at h1
        exact h1
      have HPA := Lib.hid hPa
      subst hPe
      have hge : ¬ i < (strOf s).size := by have := HSZ.out; omega
      clear HLY HA hPa hie hlt
      by_cases hse : s = []
      · have ha0 : a = 0 := by
          have h1 := idx_of HM.out.tr.nodup HPA.out
          rw [hse, HM.out.tr.idx0] at h1
          exact (Option.some.inj h1).symm
        subst ha0
        go_wp2_with fail
        go_end0
        exact ⟨rfl, E1, evs1, sv1, D1, HM.out, HE1.out.skip (by rw [← hse]; exact HS.out), HL1.out.next HS.out (fun h => absurd hse h)⟩
      · have ha0 : a ≠ 0 := fun e => by
          subst e
          have h1 := HPA.out
          rw [HM.out.tr.root] at h1
          exact hse (Option.some.inj h1).symm
        have ha1 : (0 : Int) < (a : Int) := by omega
        have hee := HE1.out.2 a s HPA.out
        obtain ⟨ev, hev⟩ : ∃ ev, evs1[a]? = some ev := ⟨_, List.getElem?_eq_getElem (by rw [HM.out.vl]; exact hal)⟩
        have hown := HM.out.ends a _ ev hee hev
        obtain ⟨oe, ce, rfl⟩ := own_shapeF hown
        obtain ⟨gs, cap, rfl, hgs1, hgs2, hgs3⟩ := HM.out.svn
        obtain ⟨es, hes⟩ : ∃ es, endsJ (ls.take n) s = es := ⟨_, rfl⟩
        have hel : es.length ≤ ls.length := by
          rw [← hes]
          unfold endsJ
          refine Nat.le_trans (List.length_filter_le _ _) ?_
          rw [List.length_range, List.length_take]; omega
        rw [hes] at hee hown hev
        have hcf := own_cf HM.out.ow
        have hst := stG_at (List.replicate P1.length 0) evs1 a 0 _ (by rw [List.getElem?_replicate, if_pos hal]) hev
        have n1 := hcf.1 _ _ hst.2
        have nf := hcf.2 (a * 2 + 1)
        have HEV := Lib.hid hev
        have HEE := Lib.hid hee
        have HES := Lib.hid hes
        have HOWN := Lib.hid hown
        have m1 := HM.out.m.cell 1
        have hgo : (Value.slice oe es.length ce).ownBlock ≠ some gs := fun e => (HM.out.apart.2.2.2.2.2.2 a _ gs hev e).2.2.2 rfl
        have hMo : (Value.slice oe es.length ce).ownBlock ≠ some M := fun e => (HM.out.apart.2.2.2.2.2.2 a _ M hev e).1 rfl
        have HGO := Lib.hid hgo
        have HGM : Hid (M ≠ gs) := fun e => HM.out.apart.2.2.2.1 (by rw [e]; rfl)
        have HSE := Lib.hid hse
        have HMO := Lib.hid hMo
        have HOWA := Lib.hid (own_below HOWN.out (below_drewF ((Below.refl wo.heap.size wo).alloc (Nat.le_refl _) (.cells #[.int .i64 n] 3))))
        clear hcf hst hev hee hes hown hse ha0 hgo hMo
        obtain ⟨i0, hi0, hz0, hz1, hz2⟩ := info_parts infoInt
        have e3 : es.length + 1 ≤ maxLen := by unfold maxLen; omega
        have e4 : (es.length + 1) * 8 ≤ 140737488355328 := by omega
        have hbs := HM.out.bel.size
        go_upto_region 13 with fail
        refine wp_region_held_drew (S := (fun w' => w'.cell? ⟨M, 1, none⟩ = some (.slice (some ⟨gs, 0, none⟩) P1.length cap))) (by kernel_rfl) (by exact m1) (fun hHeld => ?_)
        refine wpAnyH_take (i := 0) (v := ?_) rfl (by kernel_rfl) (by kernel_rfl) (by kernel_rfl) (fun _ _ _ h => h) (Or.inl ⟨by rfl, ?_⟩) (by assumption) ?_
        rotate_left
        · intro w hSw
          go_simp
          try rfl
        simp only [Act.put, List.setIfInBounds_toArray, List.set_cons_zero, List.set_cons_succ, List.getElem_toArray, List.getElem_cons_succ, List.getElem_cons_zero]
        refine wpAnyH_take (i := 1) (v := ?_) rfl (by kernel_rfl) (by kernel_rfl) (by kernel_rfl) (fun _ _ _ h => h) (Or.inl ⟨by rfl, ?_⟩) (by assumption) ?_
        rotate_left
        · intro w hSw
          go_simp
          try rfl
        simp only [Act.put, List.setIfInBounds_toArray, List.set_cons_zero, List.set_cons_succ, List.getElem_toArray, List.getElem_cons_succ, List.getElem_cons_zero]
        refine wpAnyH_take (i := 2) (v := ?_) rfl (by kernel_rfl) (by kernel_rfl) (by kernel_rfl) (fun _ _ _ h => h) (Or.inl ⟨by rfl, ?_⟩) (by assumption) ?_
        rotate_left
        · intro w hSw
          go_simp
          try rfl
        simp only [Act.put, List.setIfInBounds_toArray, List.set_cons_zero, List.set_cons_succ, List.getElem_toArray, List.getElem_cons_succ, List.getElem_cons_zero]
        refine wpAnyH_take (i := 3) (v := ?_) rfl (by kernel_rfl) (by kernel_rfl) (by kernel_rfl) (fun _ _ _ h => h) (Or.inl ⟨by rfl, ?_⟩) (by assumption) ?_
        rotate_left
        · intro w hSw
          go_simp
          try rfl
        simp only [Act.put, List.setIfInBounds_toArray, List.set_cons_zero, List.set_cons_succ, List.getElem_toArray, List.getElem_cons_succ, List.getElem_cons_zero]
        refine wpAnyH_take (i := 4) (v := ?_) rfl (by kernel_rfl) (by kernel_rfl) (by kernel_rfl) (fun _ _ _ h => h) (Or.inl ⟨by rfl, ?_⟩) (by assumption) ?_
        rotate_left
        · intro w hSw
          go_simp
          try rfl
        simp only [Act.put, List.setIfInBounds_toArray, List.set_cons_zero, List.set_cons_succ, List.getElem_toArray, List.getElem_cons_succ, List.getElem_cons_zero]
        refine wpAnyH_take (i := 5) (v := ?_) rfl (by kernel_rfl) (by kernel_rfl) (by kernel_rfl) (fun _ _ _ h => h) (Or.inl ⟨by rfl, ?_⟩) (by assumption) ?_
        rotate_left
        · intro w hSw
          go_simp
          try rfl
        simp only [Act.put, List.setIfInBounds_toArray, List.set_cons_zero, List.set_cons_succ, List.getElem_toArray, List.getElem_cons_succ, List.getElem_cons_zero]
        refine wpAnyH_take (i := 6) (v := ?_) rfl (by kernel_rfl) (by kernel_rfl) (by kernel_rfl) (fun _ _ _ h => h) (Or.inl ⟨by rfl, ?_⟩) (by assumption) ?_
        rotate_left
        · intro w hSw
          go_simp
          try rfl
        simp only [Act.put, List.setIfInBounds_toArray, List.set_cons_zero, List.set_cons_succ, List.getElem_toArray, List.getElem_cons_succ, List.getElem_cons_zero]
        refine wpAnyH_take (i := 7) (v := ?_) rfl (by kernel_rfl) (by kernel_rfl) (by kernel_rfl) (fun _ _ _ h => h) (Or.inl ⟨by rfl, ?_⟩) (by assumption) ?_
        rotate_left
        · intro w hSw
          go_simp
          try rfl
        simp only [Act.put, List.setIfInBounds_toArray, List.set_cons_zero, List.set_cons_succ, List.getElem_toArray, List.getElem_cons_succ, List.getElem_cons_zero]
        refine wpAnyH_take (i := 8) (v := ?_) rfl (by kernel_rfl) (by kernel_rfl) (by kernel_rfl) (fun _ _ _ h => h) (Or.inl ⟨by rfl, ?_⟩) (by assumption) ?_
        rotate_left
        · intro w hSw
          go_simp
          try rfl
        simp only [Act.put, List.setIfInBounds_toArray, List.set_cons_zero, List.set_cons_succ, List.getElem_toArray, List.getElem_cons_succ, List.getElem_cons_zero]
        refine wpAnyH_take (i := 9) (v := ?_) rfl (by kernel_rfl) (by kernel_rfl) (by kernel_rfl) (fun _ _ _ h => h) (Or.inl ⟨by rfl, ?_⟩) (by assumption) ?_
        rotate_left
        · intro w hSw
          go_simp
          try rfl
        simp only [Act.put, List.setIfInBounds_toArray, List.set_cons_zero, List.set_cons_succ, List.getElem_toArray, List.getElem_cons_succ, List.getElem_cons_zero]
        refine wpAnyH_take (i := 10) (v := ?_) rfl (by kernel_rfl) (by kernel_rfl) (by kernel_rfl) (fun _ _ _ h => h) (Or.inl ⟨by rfl, ?_⟩) (by assumption) ?_
        rotate_left
        · intro w hSw
          go_simp
          try rfl
        simp only [Act.put, List.setIfInBounds_toArray, List.set_cons_zero, List.set_cons_succ, List.getElem_toArray, List.getElem_cons_succ, List.getElem_cons_zero]
        refine wpAnyH_take (i := 11) (v := ?_) rfl (by kernel_rfl) (by kernel_rfl) (by kernel_rfl) (fun _ _ _ h => h) (Or.inl ⟨by rfl, ?_⟩) (by assumption) ?_
        rotate_left
        · intro w hSw
          go_simp
          try rfl
        simp only [Act.put, List.setIfInBounds_toArray, List.set_cons_zero, List.set_cons_succ, List.getElem_toArray, List.getElem_cons_succ, List.getElem_cons_zero]
        refine wpAnyH_take (i := 13) (v := ?_) rfl (by kernel_rfl) (by kernel_rfl) (by kernel_rfl) (fun _ _ _ h => h) (Or.inl ⟨by rfl, ?_⟩) (by assumption) ?_
        rotate_left
        · intro w hSw
          go_simp
          try rfl
        simp only [Act.put, List.setIfInBounds_toArray, List.set_cons_zero, List.set_cons_succ, List.getElem_toArray, List.getElem_cons_succ, List.getElem_cons_zero]
        refine wpAnyH_ready (rs := [12, 14]) (by kernel_rfl) (by simp) ?_
        refine AllReadyH.cons rfl (fun K9 hK => ?_) (AllReadyH.cons rfl (fun K9 hK => ?_) AllReadyH.nil)
        · go_simp
          refine hK.out _ _ (by exact m1) (fun hHeld => ?_)
          clear hK K9
          try simp only [Act.put, List.setIfInBounds_toArray, List.set_cons_zero, List.set_cons_succ, List.getElem_toArray, List.getElem_cons_succ, List.getElem_cons_zero]
          refine wpAnyH_ready (rs := [14]) (by kernel_rfl) (by simp) ?_
          refine AllReadyH.cons rfl (fun K9 hK => ?_) AllReadyH.nil
          go_simp
          refine hK.out _ _ (by exact (((Below.refl wo.heap.size wo).drew).alloc (by simp) _).cell (p := ⟨M, 1, none⟩) HM.out.m.lt |>.trans m1) (fun hHeld => ?_)
          clear hK K9
          try simp only [Act.put, List.setIfInBounds_toArray, List.set_cons_zero, List.set_cons_succ, List.getElem_toArray, List.getElem_cons_succ, List.getElem_cons_zero]
          refine wpAnyH_ready (rs := [15]) (by kernel_rfl) (by simp) ?_
          refine AllReadyH.cons rfl (fun K9 hK => ?_) AllReadyH.nil
          refine step_append_lies _ rfl (.tmp 70) (.tmp 72) 70 rfl w0.heap.size 3 i0 (.int .i64 0) 1 8 Try.underlying70 hi0 hz0 hz1 hz2 rfl (by decide) (.slice oe es.length ce) es.length (intG es) rfl HOWA.out ⟨wo.heap.size, 0, none⟩ 1 1 [.int .i64 n] rfl rfl (cells_newF wo.drew #[.int .i64 n] _) (by simp [Value.oneCell']) (by omega) e3 e4 (by simp; omega) _ rfl ?_
          intro g3 cap3 w3 hown3 hgrow3 hfr3 hlt3
          have hkgs : w3.heap[gs]? = wo.heap[gs]? := (hgrow3.block gs (by simp; omega) (fun h => HGO.out h.symm)).trans (Below.heap_alloc wo.drew _ gs hgs2)
          have hkM : w3.heap[M]? = wo.heap[M]? := (hgrow3.block M (by have := HM.out.m.lt; simp; omega) (fun h => HMO.out h.symm)).trans (Below.heap_alloc wo.drew _ M HM.out.m.lt)
          have n3 := (World.cell?_of_block (a := ⟨gs, a * 2 + 1, none⟩) hkgs).trans n1
          have nf3 := (World.frozen?_of_block (a := ⟨gs, a * 2 + 1, none⟩) hkgs).trans nf
          have M3 := (World.cell?_of_block (a := ⟨M, 1, none⟩) hkM).trans m1
          refine hK.out _ _ (by exact M3) (fun hHeld => ?_)
          clear hK K9
          try simp only [Act.put, List.setIfInBounds_toArray, List.set_cons_zero, List.set_cons_succ, List.getElem_toArray, List.getElem_cons_succ, List.getElem_cons_zero]
          refine wpAnyH_take (i := 16) (v := ?_) rfl (by kernel_rfl) (by kernel_rfl) (by kernel_rfl) (fun _ _ _ h => h) (Or.inl ⟨by rfl, ?_⟩) (by assumption) ?_
          rotate_left
          · intro w hSw
            go_simp
            try rfl
          simp only [Act.put, List.setIfInBounds_toArray, List.set_cons_zero, List.set_cons_succ, List.getElem_toArray, List.getElem_cons_succ, List.getElem_cons_zero]
          refine wpAnyH_take (i := 17) (v := ?_) rfl (by kernel_rfl) (by kernel_rfl) (by kernel_rfl) (fun _ _ _ h => h) (Or.inl ⟨by rfl, ?_⟩) (by assumption) ?_
          rotate_left
          · intro w hSw
            go_simp
            try rfl
          simp only [Act.put, List.setIfInBounds_toArray, List.set_cons_zero, List.set_cons_succ, List.getElem_toArray, List.getElem_cons_succ, List.getElem_cons_zero]
          refine wpAnyH_ready (rs := [18]) (by kernel_rfl) (by simp) ?_
          refine AllReadyH.cons rfl (fun K9 hK => ?_) AllReadyH.nil
          go_simp
          refine hK.out _ _ (by exact (World.cell?_of_block (a := ⟨M, 1, none⟩) (Below.heap_setCell w3 ⟨gs, a * 2 + 1, none⟩ _ M HGM.out)).trans M3) (fun hHeld => ?_)
          clear hK K9
          try simp only [Act.put, List.setIfInBounds_toArray, List.set_cons_zero, List.set_cons_succ, List.getElem_toArray, List.getElem_cons_succ, List.getElem_cons_zero]
          refine wpAnyH_done (by kernel_rfl) ?_ _
          clear hHeld
          go_wp2_with fail
          go_end0
          exact ⟨rfl, E1.set a (es ++ [n]), evs1.set a (.slice (some ⟨g3, 0, none⟩) (es.length + 1) cap3), _, D1, HM.out.drew.addEnd HEE.out HEV.out hown3 hgrow3 (hfr3.imp id fun h => h.trans (World.size_alloc wo (.cells #[.int .i64 n] 3))), by rw [← HES.out]; exact HE1.out.lay HM.out.tr HS.out HSE.out HPA.out, HL1.out.next HS.out (fun _ => List.mem_of_getElem? HPA.out)⟩
        · go_simp
          refine hK.out _ _ (by exact (((Below.refl wo.heap.size wo).drew).alloc (by simp) _).cell (p := ⟨M, 1, none⟩) HM.out.m.lt |>.trans m1) (fun hHeld => ?_)
          clear hK K9
          try simp only [Act.put, List.setIfInBounds_toArray, List.set_cons_zero, List.set_cons_succ, List.getElem_toArray, List.getElem_cons_succ, List.getElem_cons_zero]
          refine wpAnyH_ready (rs := [12]) (by kernel_rfl) (by simp) ?_
          refine AllReadyH.cons rfl (fun K9 hK => ?_) AllReadyH.nil
          go_simp
          refine hK.out _ _ (by exact (((Below.refl wo.heap.size wo).drew).alloc (by simp) _).cell (p := ⟨M, 1, none⟩) HM.out.m.lt |>.trans m1) (fun hHeld => ?_)
          clear hK K9
          try simp only [Act.put, List.setIfInBounds_toArray, List.set_cons_zero, List.set_cons_succ, List.getElem_toArray, List.getElem_cons_succ, List.getElem_cons_zero]
          refine wpAnyH_ready (rs := [15]) (by kernel_rfl) (by simp) ?_
          refine AllReadyH.cons rfl (fun K9 hK => ?_) AllReadyH.nil
          refine step_append_lies _ rfl (.tmp 70) (.tmp 72) 70 rfl w0.heap.size 3 i0 (.int .i64 0) 1 8 Try.underlying70 hi0 hz0 hz1 hz2 rfl (by decide) (.slice oe es.length ce) es.length (intG es) rfl HOWA.out ⟨wo.heap.size, 0, none⟩ 1 1 [.int .i64 n] rfl rfl (cells_newF wo.drew #[.int .i64 n] _) (by simp [Value.oneCell']) (by omega) e3 e4 (by simp; omega) _ rfl ?_
          intro g3 cap3 w3 hown3 hgrow3 hfr3 hlt3
          have hkgs : w3.heap[gs]? = wo.heap[gs]? := (hgrow3.block gs (by simp; omega) (fun h => HGO.out h.symm)).trans (Below.heap_alloc wo.drew _ gs hgs2)
          have hkM : w3.heap[M]? = wo.heap[M]? := (hgrow3.block M (by have := HM.out.m.lt; simp; omega) (fun h => HMO.out h.symm)).trans (Below.heap_alloc wo.drew _ M HM.out.m.lt)
          have n3 := (World.cell?_of_block (a := ⟨gs, a * 2 + 1, none⟩) hkgs).trans n1
          have nf3 := (World.frozen?_of_block (a := ⟨gs, a * 2 + 1, none⟩) hkgs).trans nf
          have M3 := (World.cell?_of_block (a := ⟨M, 1, none⟩) hkM).trans m1
          refine hK.out _ _ (by exact M3) (fun hHeld => ?_)
          clear hK K9
          try simp only [Act.put, List.setIfInBounds_toArray, List.set_cons_zero, List.set_cons_succ, List.getElem_toArray, List.getElem_cons_succ, List.getElem_cons_zero]
          refine wpAnyH_take (i := 16) (v := ?_) rfl (by kernel_rfl) (by kernel_rfl) (by kernel_rfl) (fun _ _ _ h => h) (Or.inl ⟨by rfl, ?_⟩) (by assumption) ?_
          rotate_left
          · intro w hSw
            go_simp
            try rfl
          simp only [Act.put, List.setIfInBounds_toArray, List.set_cons_zero, List.set_cons_succ, List.getElem_toArray, List.getElem_cons_succ, List.getElem_cons_zero]
          refine wpAnyH_take (i := 17) (v := ?_) rfl (by kernel_rfl) (by kernel_rfl) (by kernel_rfl) (fun _ _ _ h => h) (Or.inl ⟨by rfl, ?_⟩) (by assumption) ?_
          rotate_left
          · intro w hSw
            go_simp
            try rfl
          simp only [Act.put, List.setIfInBounds_toArray, List.set_cons_zero, List.set_cons_succ, List.getElem_toArray, List.getElem_cons_succ, List.getElem_cons_zero]
          refine wpAnyH_ready (rs := [18]) (by kernel_rfl) (by simp) ?_
          refine AllReadyH.cons rfl (fun K9 hK => ?_) AllReadyH.nil
          go_simp
          refine hK.out _ _ (by exact (World.cell?_of_block (a := ⟨M, 1, none⟩) (Below.heap_setCell w3 ⟨gs, a * 2 + 1, none⟩ _ M HGM.out)).trans M3) (fun hHeld => ?_)
          clear hK K9
          try simp only [Act.put, List.setIfInBounds_toArray, List.set_cons_zero, List.set_cons_succ, List.getElem_toArray, List.getElem_cons_succ, List.getElem_cons_zero]
          refine wpAnyH_done (by kernel_rfl) ?_ _
          clear hHeld
          go_wp2_with fail
          go_end0
          exact ⟨rfl, E1.set a (es ++ [n]), evs1.set a (.slice (some ⟨g3, 0, none⟩) (es.length + 1) cap3), _, D1, HM.out.drew.addEnd HEE.out HEV.out hown3 hgrow3 (hfr3.imp id fun h => h.trans (World.size_alloc wo (.cells #[.int .i64 n] 3))), by rw [← HES.out]; exact HE1.out.lay HM.out.tr HS.out HSE.out HPA.out, HL1.out.next HS.out (fun _ => List.mem_of_getElem? HPA.out)⟩
end Go.Proofs.Ytpjlkhdolhoeoaa
