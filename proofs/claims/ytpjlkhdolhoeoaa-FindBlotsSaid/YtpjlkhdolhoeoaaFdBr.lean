/- Walks: the document's blotting (chapter 03). -/
import Derived.Test.YtpjlkhdolhoeoaaFdBp
import Derived.Test.YtpjlkhdolhoeoaaFdFew
namespace Go.Proofs.Ytpjlkhdolhoeoaa
open Go.Shelf Go.RowKit Go.Lib Go.Maps
set_option linter.unusedVariables false
set_option linter.unusedSimpArgs false
def bytG (X : Bs) : List Value := X.map fun c => .int .u8 (c.toNat : Int)
theorem bytG_snoc (X : Bs) (c : UInt8) : bytG (X ++ [c]) = bytG X ++ [.int .u8 (c.toNat : Int)] := by simp [bytG]
/-- A row of bytes, of one's own. -/
def OwnB (w0 : World) (v : Value) (X : Bs) (w : World) : Prop := (∃ g c, v = .slice (some ⟨g, 0, none⟩) X.length c) ∧ w.ownsRow w0.heap.size 5 1 v X.length (bytG X) ∧ Below w0.heap.size w0 w
theorem OwnB.drewN {w0 w : World} {v : Value} {X : Bs} (h : OwnB w0 v X w) (n : Nat) : OwnB w0 v X (w.drewN n) :=
  ⟨h.1, own_below h.2.1 ⟨rfl, rfl, rfl, Nat.le_refl _, fun _ _ => rfl⟩, ⟨h.2.2.os, h.2.2.tape, h.2.2.output, h.2.2.size, h.2.2.block⟩⟩
theorem covB_take {ls : List Bs} {l : List (Nat × Nat)} {i : Nat} {h : Nat × Nat} (hi : l[i]? = some h) (k : Nat) : covB ls (l.take (i + 1)) k = (covB ls (l.take i) k || cov1 ls h k) := by
  rw [List.take_add_one, hi]
  exact covB_snoc _ _ _ _
set_option maxRecDepth 100000 in
set_option maxHeartbeats 8000000 in
theorem fblotR {w : World} {b off cap : Nat} {ls : List Bs} (h : TxtM w b off ls) (hl : ls.length ≤ 100000) (hx : ∀ x ∈ ls, x.length ≤ 1000000) (s : Bs) (hs : s.length ≤ 1000000) (hsl : s.length * ls.length ≤ 1000000) (by_ : UInt8) :
    Calls Try.prog 14 #[.slice (some ⟨b, off, none⟩) ls.length cap, .string (strOf s), .int .u8 (by_.toNat : Int)] w fun e w' =>
      e = .returned (.tuple #[.string (strOf (blotTo ls by_ (hitsJ ls s) s s.length)), .int .i64 (covN ls (hitsJ ls s) s.length : Nat)]) ∧ Below w.heap.size w w' := by
  obtain ⟨i0, hi, hz0, hz1, hz2⟩ := info_parts infoU8
  have HH := Lib.hid (fhitsR (cap := cap) h hl hx s hs hsl)
  have HTX := Lib.hid (fun (W : World) (hb : Below w.heap.size w W) => h.keep hb)
  have HX := Lib.hid hx
  have HIN := Lib.hid (fun h (hh : h ∈ hitsJ ls s) => hits_in hh)
  have hlen := hitsJ_len ls s
  obtain ⟨n, hn⟩ : ∃ n, ls.length = n := ⟨_, rfl⟩
  obtain ⟨l, hll⟩ : ∃ l, hitsJ ls s = l := ⟨_, rfl⟩
  rw [hll] at HH HIN hlen ⊢
  obtain ⟨m, hm⟩ : ∃ m, l.length = m := ⟨_, rfl⟩
  rw [hn] at HH HIN hl hlen hsl ⊢
  rw [hm] at HH hlen
  have hml : m ≤ 1000000 := by omega
  have HM := Lib.hid hm
  have HNN := Lib.hid hn
  have hsz := strOf_size s
  clear h hll hlen hsl hx hn hm
  go_enter Try.func14, Try.ntmps14
  go_upto_region 2 with (go_at_call 18; refine HH.out.mono ?_; rintro e w2 ⟨v, rfl, hr, hb⟩; have HN := Lib.hid (And.intro hr hb); obtain ⟨o1, c1, rfl⟩ := own_shapeF hr; clear hr hb)
  have hst : OwnB w2 (.slice (some ⟨w2.heap.size, 0, none⟩) 0 0) [] (w2.alloc (.cells #[] 5)) := ⟨⟨_, _, rfl⟩, World.ownsRow_lit w2 #[] 0 (Nat.le_refl _) (by decide) rfl, (Below.refl _ _).alloc (Nat.le_refl _) _⟩
  have HST := Lib.hid hst
  clear hst
  go_wp2_with fail
  go_loopw [9, 10, 11] (fun v q z wr => ∃ k : Nat, z = .int .i64 k ∧ k ≤ s.length ∧ q = .int .i64 (covN ls l k : Nat) ∧ OwnB w2 v (blotTo ls by_ l s k) wr) (fun _ _ z _ => s.length - (intOf z).toNat)
  case atStart => exact ⟨0, rfl, Nat.zero_le _, rfl, HST.out⟩
  case round =>
    obtain ⟨k, rfl, hk, rfl, hR⟩ := hrel
    have HR := Lib.hid hR
    obtain ⟨⟨g, cp, rfl⟩, _, _⟩ := hR
    have hbl := blotTo_len ls by_ l s k
    rw [hbl] at HR ⊢
    by_cases hlt : k < s.length
    · have kz : (k : Int) < (s.length : Int) := by omega
      have k0 : (0 : Int) ≤ (k : Int) := by omega
      have e2 : IntKind.i64.wrap ((k : Int) + 1) = (k : Int) + 1 := IntWalk.i64_in _ (by omega)
      have hltn : k < (strOf s).size := by omega
      obtain ⟨c, hc⟩ : ∃ c, s[k]? = some c := ⟨_, List.getElem?_eq_getElem hlt⟩
      have hby := byteF hc hltn
      have HC := Lib.hid hc
      have hcn := covN_le ls l k
      have HCS := Lib.hid (covN_succ ls l k)
      have HBS := Lib.hid (blotTo_succ ls by_ l s k)
      obtain ⟨N, hN⟩ : ∃ N, covN ls l k = N := ⟨_, rfl⟩
      rw [hN] at hcn HCS ⊢
      have e7 : IntKind.i64.wrap ((N : Int) + 1) = (N : Int) + 1 := IntWalk.i64_in _ (by omega)
      obtain ⟨X, hX⟩ : ∃ X, blotTo ls by_ l s k = X := ⟨_, rfl⟩
      rw [hX] at hbl HR HBS
      clear hc hN hX
      go_wp2_with fail
      go_loopw [13, 14] (fun q z wr2 => ∃ i : Nat, z = .int .i64 i ∧ i ≤ m ∧ q = .bool (covB ls (l.take i) k) ∧ OwnB w2 (.slice (some ⟨g, 0, none⟩) k cp) X wr2) (fun _ z _ => m - (intOf z).toNat)
      case atStart => exact ⟨0, rfl, Nat.zero_le _, by simp [covB], HR.out⟩
      case round =>
        obtain ⟨i, rfl, hi2, rfl, hR2⟩ := hrel
        have HR2 := Lib.hid hR2
        by_cases hil : i < m
        · obtain ⟨⟨a, t⟩, he⟩ : ∃ e, l[i]? = some e := ⟨_, List.getElem?_eq_getElem (by have := HM.out; omega)⟩
          have hrow : wr.ownsRow w.heap.size 46 2 (.slice o1 m c1) l.length (hitG l) := by rw [HM.out]; exact own_below HN.out.1 hR2.2.2
          rcases hrow.2 with ⟨_, h0⟩ | ⟨g1, cap1, cur1, hvv, _⟩
          · have := HM.out; omega
          simp only [Value.slice.injEq] at hvv
          obtain ⟨rfl, hq1, hq2⟩ := hvv
          clear hq1 hq2
          obtain ⟨l0, l1⟩ := hit_cellsR hrow he
          simp only at l0 l1
          obtain ⟨htl, hae⟩ := HIN.out _ (List.mem_of_getElem? he)
          simp only at htl hae
          obtain ⟨x, hx⟩ : ∃ x, ls[t]? = some x := ⟨_, List.getElem?_eq_getElem (by have := HNN.out; omega)⟩
          have hgd : ls.getD t [] = x := by rw [List.getD_eq_getElem?_getD, hx]; rfl
          rw [hgd] at hae
          have ht0 := HTX.out wr (HN.out.2.trans (hR2.2.2.mono HN.out.2.size)) t x hx
          have hct := covB_take (ls := ls) he k
          have hc1 : cov1 ls (a, t) k = (decide (a ≤ k) && decide (k < a + x.length)) := by unfold cov1; simp only [hgd]
          rw [hc1] at hct
          have HCT := Lib.hid hct
          have hxs := strOf_size x
          obtain ⟨L, hL⟩ : ∃ L, x.length = L := ⟨_, rfl⟩
          rw [hL] at hae hxs HCT
          obtain ⟨Y, hY⟩ : ∃ Y, strOf x = Y := ⟨_, rfl⟩
          rw [hY] at ht0 hxs
          have i1 : (i : Int) < (m : Int) := by omega
          have i2 : (0 : Int) ≤ (i : Int) := by omega
          have t1 : (t : Int) < (n : Int) := by omega
          have t2 : (0 : Int) ≤ (t : Int) := by omega
          have e5 : IntKind.i64.wrap ((i : Int) + 1) = (i : Int) + 1 := IntWalk.i64_in _ (by omega)
          clear hrow he hx hgd hct hc1 hL hY hR2
          go_upto_region 12 with fail
          by_cases h1 : a ≤ k
          · have h1z : (a : Int) ≤ (k : Int) := by omega
            by_cases h2 : k < a + L
            · have h2z : (k : Int) - (a : Int) < (L : Int) := by omega
              have HV := Lib.hid (show covB ls (l.take (i + 1)) k = true by rw [HCT.out, decide_eq_true h1, decide_eq_true h2]; simp)
              go_quiet (fail)
              go_wp2_with fail
              go_roundw
              case rel => exact ⟨i + 1, by go_num, hil, by rw [HV.out], HR2.out.drewN nq⟩
              case measure => simp [intOf]; omega
            · have h2z : ¬ (k : Int) - (a : Int) < (L : Int) := by omega
              have HV := Lib.hid (show covB ls (l.take (i + 1)) k = covB ls (l.take i) k by rw [HCT.out, decide_eq_true h1, decide_eq_false h2]; simp)
              go_quiet (fail)
              go_wp2_with fail
              go_roundw
              case rel => exact ⟨i + 1, by go_num, hil, by rw [HV.out], HR2.out.drewN nq⟩
              case measure => simp [intOf]; omega
          · have h1z : ¬ (a : Int) ≤ (k : Int) := by omega
            have HV := Lib.hid (show covB ls (l.take (i + 1)) k = covB ls (l.take i) k by rw [HCT.out, decide_eq_false h1]; simp)
            go_quiet (fail)
            go_wp2_with fail
            go_roundw
            case rel => exact ⟨i + 1, by go_num, hil, by rw [HV.out], HR2.out.drewN nq⟩
            case measure => simp [intOf]; omega
        · have i1 : ¬ (i : Int) < (m : Int) := by omega
          have hti : l.take i = l := List.take_of_length_le (by have := HM.out; omega)
          rw [hti]
          obtain ⟨q, hq⟩ : ∃ q, covB ls l k = q := ⟨_, rfl⟩
          have hg0 : s.getD k 0 = c := by rw [List.getD_eq_getElem?_getD, HC.out]; rfl
          obtain ⟨d, hd⟩ : ∃ d, (if q = true then by_ else c) = d := ⟨_, rfl⟩
          have HB2 : Hid (blotTo ls by_ l s (k + 1) = X ++ [d]) := by
            show _ = _
            rw [HBS.out, hq, hg0, hd]
          have HC2 : Hid (covN ls l (k + 1) = N + (if q = true then 1 else 0)) := by
            show _ = _
            rw [HCS.out, hq]
          rw [hq]
          clear hq hti hR2 hg0
          obtain ⟨_, hown, hbel⟩ := HR2.out
          rw [hbl] at hown
          have e3 : k + 1 ≤ maxLen := by unfold maxLen; omega
          have e4 : (k + 1) * 1 ≤ 140737488355328 := by omega
          have e6 : w2.heap.size ≤ (wr.alloc (.cells #[.int .u8 (d.toNat : Int)] 5)).heap.size := by have := hbel.size; simp; omega
          clear hbel
          cases q
          all_goals
            simp only [Bool.false_eq_true, if_false, if_true] at hd
            subst hd
            go_wp2_with (at_builtin; refine wpList_append_own _ rfl _ _ 24 rfl w2.heap.size 5 i0 (.int .u8 0) 1 1 Try.underlying24 hi hz0 hz1 hz2 rfl (by decide) _ _ _ rfl (hown.alloc _) ⟨wr.heap.size, 0, none⟩ 1 1 [_] rfl rfl (cells_newF _ _ _) (by intro u hu; simp at hu; subst hu; rfl) e3 e4 e6 ?_; intro v' w4 hown4 hg4 _; have H4 := Lib.hid (And.intro hown4 hg4); obtain ⟨g4, c4, rfl⟩ := own_some hown4 (by omega); go_frame)
            obtain ⟨hown4, hg4⟩ := H4.out
            have hb4 : Below w2.heap.size w2 w4 := (HR2.out.2.2.alloc HR2.out.2.2.size _).trans (below_grown hg4 e6 (fun j hj => (hown.lt j hj).1))
            have HB4 := Lib.hid (And.intro hown4 hb4)
            clear hown4 hg4 hb4 hown
            go_wp2_with fail
            go_roundw
            case rel =>
              refine ⟨k + 1, by go_num, hlt, by rw [HC2.out]; first | rfl | simp, ?_⟩
              rw [HB2.out]
              refine ⟨⟨_, _, by rw [List.length_append, List.length_singleton, hbl]⟩, ?_, HB4.out.2⟩
              have h4 := HB4.out.1
              rw [List.length_append, List.length_singleton, hbl, bytG_snoc]
              exact h4
            case measure => simp [intOf]; omega
    · have hke : k = s.length := by omega
      subst hke
      have i1 : ¬ (s.length : Int) < (s.length : Int) := by omega
      obtain ⟨_, hown, hbel⟩ := HR.out
      have hcv : Sem.run Try.prog (convert 24 9 (.slice (some ⟨g, 0, none⟩) s.length cp)) wr = .ok (.string (strOf (blotTo ls by_ l s s.length))) wr := by
        have h9 := conv_cells (w := wr) (g := g) (off := 0) (X := blotTo ls by_ l s s.length) (fun j c hj => by
          rw [hbl] at hown
          have := hown.cells (g := g) rfl j (.int .u8 (c.toNat : Int)) (by unfold bytG; rw [List.getElem?_map, hj]; rfl)
          rwa [Addr.add_lit] at this) cp
        rw [hbl] at h9
        exact h9
      have HB := Lib.hid (HN.out.2.trans (hbel.mono HN.out.2.size))
      clear hown hbel
      go_wp2_with fail
      (try simp only [Exit.inBlock, Exit.then])
      exact bodyPost_ret (v := .tuple #[.string (strOf (blotTo ls by_ l s s.length)), .int .i64 (covN ls l s.length : Nat)]) (by simp [results, Try.f14, go_sem]) rfl ⟨rfl, HB.out⟩
end Go.Proofs.Ytpjlkhdolhoeoaa
