/- Walks: the state behind a byte (find.next, chapter 03). -/
import Derived.Test.YtpjlkhdolhoeoaaFdMem
namespace Go.Proofs.Ytpjlkhdolhoeoaa
open Go.RowKit Go.Maps
set_option linter.unusedVariables false
set_option linter.unusedSimpArgs false
/-- What 'next' reads: the box, the states' backs, the map; in any memory in which these stand. -/
structure NxM (w : World) (M : Nat) (P : List Bs) (bk : List Nat) : Prop where
  go : ∃ (lv : Value) (gs cap B : Nat) (D : DataW Unit), w.cell? ⟨M, 1, none⟩ = some (.slice (some ⟨gs, 0, none⟩) P.length cap) ∧ w.cell? ⟨M, 2, none⟩ = some (.map (some B)) ∧ (∀ (k b : Nat), bk[k]? = some b → w.cell? ⟨gs, k * 2, none⟩ = some (.int .i64 (b : Int))) ∧
    w.ownsMap Try.prog 68 (plainElem Try.prog 3) B P.length D ∧ MapP D P
theorem BigM.next {w0 wr : World} {M B : Nat} {ls P : List Bs} {bk : List Nat} {E : List (List Nat)} {evs : List Value} {lv sv : Value} {D : DataW Unit} (h : BigM w0 M B ls P P bk E evs lv sv D wr) : NxM wr M P bk := by
  obtain ⟨gs, cap, rfl, h1, h2, h3⟩ := h.svn
  refine ⟨lv, gs, cap, B, D, h.m.cell 1, h.m.cell 2, fun k b hk => ?_, h.mp, h.mP⟩
  have hkl := get_lt hk
  obtain ⟨ev, hv⟩ : ∃ ev, evs[k]? = some ev := ⟨_, List.getElem?_eq_getElem (by rw [h.vl, ← h.bl]; exact hkl)⟩
  have := h.ow.cells (g := gs) rfl _ _ (stG_at bk evs k b ev hk hv).1
  rwa [Addr.add_lit, Nat.zero_add] at this
/-- The backs are right, of all states that are not longer than so much. -/
def BackP (P : List Bs) (bk : List Nat) (n : Nat) : Prop := ∀ (k : Nat) (x : Bs), P[k]? = some x → k ≠ 0 → x.length ≤ n → bk[k]? = some (backI P k)
set_option maxRecDepth 100000 in
set_option maxHeartbeats 4000000 in
theorem fnext (M : Nat) (P : List Bs) (bk : List Nat) (a : Nat) (x : Bs) (c : UInt8) (w : World) (h : NxM w M P bk) (ht : Trie P) (hP : P.length ≤ 1000000) (hx : P[a]? = some x) (hb : BackP P bk x.length) :
    Calls Try.prog 41 #[.pointer (some ⟨M, 0, none⟩), .int .i64 a, .int .u8 (c.toNat : Int)] w fun e w' => e = .returned (.int .i64 (sufI P (x ++ [c]) : Nat)) ∧ w = w' := by
  obtain ⟨lv, gs, cap, B, D, m1, m2, hbk, hmp, hmP⟩ := h.go
  have HBK := Lib.hid hbk
  have HMP := Lib.hid hmp
  have HM := Lib.hid hmP
  have HT := Lib.hid ht
  have HB := Lib.hid hb
  have hc8 := UInt8.toNat_lt c
  obtain ⟨N, hN⟩ : ∃ N, sufI P (x ++ [c]) = N := ⟨_, rfl⟩
  rw [hN]
  have HN := Lib.hid hN
  have HX := Lib.hid hx
  clear hbk hmp hmP ht hb hN hx h
  go_enter Try.func41, Try.ntmps41
  go_wp2_with fail
  go_loop [1] (fun z => ∃ (k : Nat) (y : Bs), z = .int .i64 k ∧ P[k]? = some y ∧ y.length ≤ x.length ∧ sufI P (y ++ [c]) = N) (fun z => (P.getD (intOf z).toNat []).length)
  case atStart => exact ⟨a, x, rfl, HX.out, Nat.le_refl _, HN.out⟩
  case round =>
    obtain ⟨k, y, rfl, hk, hyl, hy⟩ := hrel
    have HK := Lib.hid hk
    have HY := Lib.hid hy
    have hkl : k < P.length := get_lt hk
    clear hk hy
    have hkey := keyOf_step (k : Int) (c.toNat : Int) (wfN (by omega)) (wfN (u8_le c))
    have HKEY := Lib.hid hkey
    clear hkey
    cases hi : idx P (y ++ [c]) with
    | some i =>
      have HV : Hid (N = i) := by show _ = _; rw [← HY.out, sufI_hit HT.out hi]
      obtain ⟨hh, hv⟩ := HM.out.hit HK.out hi
      have HH := Lib.hid hh
      have HVV := Lib.hid hv
      clear hh hv hi
      go_wp2_with (at_lookup; refine wpList_lookup_own_ok_int _ rfl _ _ 53 rfl 68 3 .i64 lawStep Try.underlying53 Try.underlying3 (zeroIntF _) B P.length D rfl HMP.out _ _ rfl HKEY.out ?_; rw [HH.out]; intro cc hat hwc)
      have hcc : cc = (i : Int) := by
        have h1 := hat.symm.trans HVV.out
        simpa using h1
      have HCC := Lib.hid hcc
      clear hat hcc
      go_wp2_with fail
      go_ret
      exact ⟨by rw [HV.out, ← HCC.out]; rfl, rfl⟩
    | none =>
      have hh := HM.out.miss hP HK.out hi
      have HH := Lib.hid hh
      have HI := Lib.hid hi
      clear hh hi
      by_cases hk0 : k = 0
      · subst hk0
        have hye : y = [] := by
          have h1 := HK.out
          rw [HT.out.root] at h1
          exact (Option.some.inj h1).symm
        subst hye
        have HV : Hid (N = 0) := by show _ = _; rw [← HY.out]; exact next_root HT.out HI.out
        go_wp2_with (at_lookup; refine wpList_lookup_own_ok_int _ rfl _ _ 53 rfl 68 3 .i64 lawStep Try.underlying53 Try.underlying3 (zeroIntF _) B P.length D rfl HMP.out _ _ rfl HKEY.out ?_; rw [HH.out]; intro cc hat hwc)
        clear hat
        go_wp2_with fail
        go_ret
        exact ⟨by rw [HV.out]; rfl, rfl⟩
      · have q1 : ((k : Int) == 0) = false := by simp; omega
        obtain ⟨z, hz⟩ : ∃ z, P[backI P k]? = some z := ⟨_, List.getElem?_eq_getElem (by
          cases hy2 : y with
          | nil =>
            rw [hy2] at HK
            have := idx_of HT.out.nodup HK.out
            rw [HT.out.idx0] at this
            cases this; exact absurd rfl hk0
          | cons d t =>
            have h1 := HK.out
            rw [hy2] at h1
            rw [backI_cons h1]
            exact sufI_lt HT.out t)⟩
        have hzl := back_short HT.out HK.out hk0 hz
        have HN2 : Hid (sufI P (z ++ [c]) = N) := by show _ = _; rw [← next_back HT.out HK.out hk0 HI.out hz]; exact HY.out
        have hb0 := HBK.out k _ (HB.out k y HK.out hk0 hyl)
        have HZ := Lib.hid hz
        obtain ⟨kb, hkb⟩ : ∃ kb, backI P k = kb := ⟨_, rfl⟩
        rw [hkb] at hb0 HZ
        clear hkb hz hk0
        go_wp2_with (at_lookup; refine wpList_lookup_own_ok_int _ rfl _ _ 53 rfl 68 3 .i64 lawStep Try.underlying53 Try.underlying3 (zeroIntF _) B P.length D rfl HMP.out _ _ rfl HKEY.out ?_; rw [HH.out]; intro cc hat hwc)
        clear hat
        go_wp2_with fail
        go_round
        case rel => exact ⟨kb, z, rfl, HZ.out, by omega, HN2.out⟩
        case measure =>
          have h1 : P.getD kb [] = z := by rw [List.getD_eq_getElem?_getD, HZ.out]; rfl
          have h2 : P.getD k [] = y := by rw [List.getD_eq_getElem?_getD, HK.out]; rfl
          simp only [intOf]
          show (P.getD (Int.toNat (kb : Int)) []).length < (P.getD (Int.toNat (k : Int)) []).length
          rw [Int.toNat_natCast, Int.toNat_natCast, h1, h2]
          exact hzl
end Go.Proofs.Ytpjlkhdolhoeoaa
